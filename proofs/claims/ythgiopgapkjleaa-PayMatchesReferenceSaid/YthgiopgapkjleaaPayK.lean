/- Layer 28 (pay): the reference's Ask and Answer. -/
import Derived.Test.YthgiopgapkjleaaPayJ
namespace Go.Proofs.Ythgiopgapkjleaa
open Go.RowKit
set_option linter.unusedVariables false
set_option linter.unusedSimpArgs false
attribute [local go_sem] ext_cell ext_frozen lt_ext ext_drew

/-- The reference's payment, wherever its rows lie. -/
def RefAt (w : World) (rb base K : Nat) (r : RefS) : Prop := ∃ A1 c1 A2 c2, RefIs w rb base K r A1 c1 A2 c2
/-- What a step of the reference's leaves. -/
def RefDid (w : World) (rb base K : Nat) (t : RefS × Int × Int) (e : Ending) (w' : World) : Prop :=
  e = .returned (.tuple #[.int .i64 t.2.1, .int .i64 t.2.2]) ∧ RefAt w' rb base K t.1 ∧ Below base w w'
theorem infoInt : (Try.prog.info? 3).map (fun i => (i.size, i.bytes, i.zero.map fun z => z.cells.size)) = some (1, 8, some 1) := by kernel_rfl
theorem intsV_snoc (zs : List Int) (x : Int) : intsV (zs ++ [x]) = intsV zs ++ [.int .i64 x] := by simp [intsV]

theorem below_base {w w' : World} {base : Nat} (h : Below w.heap.size w w') (hb : base ≤ w.heap.size) : Below base w w' := h.mono hb

theorem askR_no {r : RefS} {now : Int} (h : tickB now = false) : askR r now = (r, 0, 1) := by unfold askR; rw [h]; rfl
theorem askR_cases (r : RefS) (now : Int) (h : tickB now = true) : (stateR (passR r now) = 2 ∨ stateR (passR r now) = 4) ∧ askR r now = (passR r now, 0, 12) ∨ stateR (passR r now) = 3 ∧ askR r now = (passR r now, 0, 17) ∨
    stateR (passR r now) = 1 ∧ r.answers.length = 100 ∧ askR r now = (passR r now, 0, 3) ∨ stateR (passR r now) = 1 ∧ r.answers.length ≠ 100 ∧ askR r now = ({ passR r now with answers := r.answers ++ [0] }, (r.answers.length : Int) + 1, 0) := by
  have hst : stateR (passR r now) = 2 ∨ stateR (passR r now) = 4 ∨ stateR (passR r now) = 3 ∨ stateR (passR r now) = 1 := by
    unfold stateR
    split
    · exact .inl rfl
    · split
      · exact .inr (.inl rfl)
      · split
        · exact .inr (.inr (.inl rfl))
        · exact .inr (.inr (.inr rfl))
  unfold askR
  rw [if_pos h]
  by_cases h1 : stateR (passR r now) = 2 ∨ stateR (passR r now) = 4
  · rw [if_pos h1]; exact .inl ⟨h1, rfl⟩
  · rw [if_neg h1]
    by_cases h2 : stateR (passR r now) = 3
    · rw [if_pos h2]; exact .inr (.inl ⟨h2, rfl⟩)
    · rw [if_neg h2]
      have h3 : stateR (passR r now) = 1 := by omega
      by_cases h4 : r.answers.length = 100
      · rw [if_pos h4]; exact .inr (.inr (.inl ⟨h3, h4, rfl⟩))
      · rw [if_neg h4]; exact .inr (.inr (.inr ⟨h3, h4, rfl⟩))

set_option maxHeartbeats 2000000 in
theorem rask_any (w : World) (rb base K : Nat) (r : RefS) (A1 : Option Addr) (c1 : Nat) (A2 : Option Addr) (c2 : Nat) (now : Int) (h : RefIs w rb base K r A1 c1 A2 c2) (hK : K ≤ 1000) (fn : fits now) :
    Calls Try.prog 14 #[.pointer (some ⟨rb, 0, none⟩), .int .i64 now] w (RefDid w rb base K (askR r now)) := by
  obtain ⟨f1, f2⟩ := fn
  have hlt := h.bk.lt
  have hbase : base ≤ w.heap.size := by have := h.base_; omega
  by_cases ht : tickB now = true
  · obtain ⟨t1, t2⟩ := tickB_out ht
    have h2 := h.now_ now ⟨t1, t2⟩
    have H2 := Lib.hid h2
    have cb2 : w.cell? ⟨rb, 2, none⟩ = some (.int .i64 r.now) := h.bk.cell 2
    have fb2 := h.bk.free 2
    have hB2 : Hid (Below base w (w.setCell ⟨rb, 2, none⟩ (.int .i64 (max r.now now)))) := ((Only.refl (fun g => g = rb) w).set_ (p := ⟨rb, 2, none⟩) (.inl rfl) _).to_below (fun g hg => by have := h.base_; omega) hbase
    have hmx := ite_max
    obtain ⟨st, hst⟩ : ∃ v, stateR (passR r now) = v := ⟨_, rfl⟩
    have hcs := askR_cases r now ht
    rw [hst] at hcs
    have Hst := Lib.hid hst
    have Hcs := Lib.hid hcs
    have hfew := h.few
    clear h h2 hst hcs ht
    rcases Hcs.out with ⟨hs, e⟩ | ⟨rfl, e⟩ | ⟨rfl, h100, e⟩ | ⟨rfl, h100, e⟩
    · rw [e]
      clear e Hcs
      rcases hs with rfl | rfl
      all_goals
        go_enter Try.func14, Try.ntmps14
        go_wp2_with (go_at_call 17; refine (rstate_is _ _ _ _ _ _ _ _ _ _ H2.out hK Hst).mono ?_; rintro e w' ⟨rfl, n, rfl⟩)
        go_ret2
        exact ⟨rfl, ⟨_, _, _, _, H2.out.drew _⟩, below_drewN hB2.out _⟩
    · rw [e]
      clear e Hcs
      go_enter Try.func14, Try.ntmps14
      go_wp2_with (go_at_call 17; refine (rstate_is _ _ _ _ _ _ _ _ _ _ H2.out hK Hst).mono ?_; rintro e w' ⟨rfl, n, rfl⟩)
      go_ret2
      exact ⟨rfl, ⟨_, _, _, _, H2.out.drew _⟩, below_drewN hB2.out _⟩
    · rw [e]
      clear e Hcs
      go_enter Try.func14, Try.ntmps14
      go_wp2_with fail
      refine (rstate_is _ _ _ _ _ _ _ _ _ _ H2.out hK Hst).mono ?_
      rintro e w' ⟨rfl, n, rfl⟩
      have h3 := H2.out.drew n
      have h4 := below_drewN hB2.out n
      generalize (w.setCell ⟨rb, 2, none⟩ (.int .i64 (max r.now now))).drewN n = W at h3 h4 ⊢
      clear H2 hB2 hmx cb2 fb2
      have HF := Lib.hid (And.intro h3 h4)
      have cb3 : W.cell? ⟨rb, 3, none⟩ = some (.slice A1 r.answers.length c1) := h3.bk.cell 3
      have fb3 := h3.bk.free 3
      have hl := h3.bk.lt
      have hbW : base ≤ W.heap.size := by have := h3.base_; omega
      clear h3 h4
      rw [h100] at cb3
      go_wp2_with fail
      go_ret2
      exact ⟨rfl, ⟨_, _, _, _, HF.out.1⟩, HF.out.2⟩
    · rw [e]
      clear e Hcs
      go_enter Try.func14, Try.ntmps14
      go_wp2_with fail
      refine (rstate_is _ _ _ _ _ _ _ _ _ _ H2.out hK Hst).mono ?_
      rintro e w' ⟨rfl, n, rfl⟩
      have h3 := H2.out.drew n
      have h4 := below_drewN hB2.out n
      generalize (w.setCell ⟨rb, 2, none⟩ (.int .i64 (max r.now now))).drewN n = W at h3 h4 ⊢
      clear H2 hB2 hmx cb2 fb2
      have HF := Lib.hid (And.intro h3 h4)
      have cb3 : W.cell? ⟨rb, 3, none⟩ = some (.slice A1 r.answers.length c1) := h3.bk.cell 3
      have fb3 := h3.bk.free 3
      have hl := h3.bk.lt
      have hbW : base ≤ W.heap.size := by have := h3.base_; omega
      clear h3 h4
      have hlt2 : r.answers.length < 100 := by omega
      obtain ⟨il, zl, i1, i2, i3, i4, i5⟩ := info_of infoInt
      go_wp2_with (at_builtin; go_loud (refine list_append2 rfl _ _ _ rfl base _ il zl 1 8 Try.underlying61 i1 i2 i3 i4 i5 (by decide) r.answers.length (intsV r.answers) rfl (own_alloc HF.out.1.row _) (some ⟨W.heap.size, 0, none⟩) 1 1 [.int .i64 0] rfl rfl (lies_bk (Bk.new W _ _) 1) (by simp [Value.oneCell']) (by unfold maxLen; omega) (by omega) (by simp; omega) (r.answers.length + 1) (intsV r.answers ++ [.int .i64 0]) rfl rfl ?_))
      intro A' c' W2 own2 hb2 hg2 hnew
      have hg9 : ∀ g, (Value.slice A1 r.answers.length c1).ownBlock = some g → base ≤ g ∧ g < W.heap.size := fun g hg => own_lt HF.out.1.row hg
      have hbk2 : RefBk W2 rb (passR r now) A1 c1 A2 c2 := grown_bk hg2 (HF.out.1.bk.alloc _) (fun e => own_ne HF.out.1.row HF.out.1.bk (by decide) e.symm)
      have hy0 := own_alloc HF.out.1.yes (.cells #[.int .i64 0] 3)
      have hy2 : W2.ownsRow base 3 1 (.slice A2 r.yes.length c2) r.yes.length (intsV r.yes) :=
        own_only hy0 ((Only.refl (fun g => (Value.slice A1 r.answers.length c1).ownBlock = some g) _).grown hg2 (fun g e => .inl e)) (fun g hg e => HF.out.1.apart g e hg)
      have hap : ∀ g, (Value.slice A' (r.answers.length + 1) c').ownBlock = some g → (Value.slice A2 r.yes.length c2).ownBlock ≠ some g := by
        intro g hg e
        have h9 := (own_lt HF.out.1.yes e).2
        have h8 : A'.map (·.block) = some g := by cases A' with | none => simp [Value.ownBlock] at hg | some a => simpa [Value.ownBlock] using hg
        rcases hnew with hn | hn
        · rw [h8] at hn; exact HF.out.1.apart g hn.symm e
        · obtain ⟨a9, rfl, ha9⟩ := hn
          simp at h8
          omega
      have HQ := Lib.hid (And.intro hbk2 (And.intro hy2 (And.intro hap (And.intro own2 ((HF.out.2.alloc (by omega) _).trans hb2)))))
      have cB' : W2.cell? ⟨rb, 3, none⟩ = some (.slice A1 r.answers.length c1) := hbk2.cell 3
      have fB' := hbk2.free 3
      have lB' := hbk2.lt
      clear hbk2 hy0 hy2 hap own2 hb2 hg2 hnew hg9 cb3 fb3
      go_wp2_with fail
      go_ret2
      have hset : Only (fun g => g = rb) W2 (W2.setCell ⟨rb, 3, none⟩ (.slice A' (r.answers.length + 1) c')) := (Only.refl (fun g => g = rb) W2).set_ (p := ⟨rb, 3, none⟩) (.inl rfl) _
      refine ⟨rfl, ⟨A', c', A2, c2, ⟨?_, ?_, ?_, ?_, HF.out.1.base_, ?_, HF.out.1.few2, HF.out.1.tot, HF.out.1.now, HF.out.1.till, HF.out.1.yesf, ?_⟩⟩, ?_⟩
      · have := HQ.out.1.set_ 3 (.slice A' (r.answers.length + 1) c')
        show Bk _ _ _ _
        simp only [List.length_append, List.length_cons, List.length_nil]
        exact this
      · show World.ownsRow _ _ _ _ (.slice A' (r.answers ++ [0]).length c') (r.answers ++ [0]).length (intsV (r.answers ++ [0]))
        rw [List.length_append, intsV_snoc]
        exact own_only HQ.out.2.2.2.1 hset (fun g hg e => by subst e; exact own_ne HQ.out.2.2.2.1 HQ.out.1 (by decide) hg)
      · exact own_only HQ.out.2.1 hset (fun g hg e => by subst e; exact own_ne HQ.out.2.1 HQ.out.1 (by decide) hg)
      · show ∀ g, (Value.slice A' (r.answers ++ [0]).length c').ownBlock = some g → _
        rw [List.length_append]
        exact HQ.out.2.2.1
      · show (r.answers ++ [0]).length ≤ 100
        rw [List.length_append]; simp; omega
      · intro x hx
        have hx' : x ∈ r.answers ++ [0] := hx
        simp only [List.mem_append, List.mem_cons, List.not_mem_nil, or_false] at hx'
        rcases hx' with hx' | rfl
        · exact HF.out.1.ansf x hx'
        · omega
      · exact HQ.out.2.2.2.2.trans (hset.to_below (fun g hg => by have := HF.out.1.base_; omega) (by have := HF.out.1.base_; omega))
  · have hno := tickB_no (by simpa using ht)
    rw [askR_no (by simpa using ht)]
    have H := Lib.hid h
    clear h ht
    rcases hno with hno | hno
    all_goals
      go_enter Try.func14, Try.ntmps14
      go_wp2_with fail
      go_ret2
      exact ⟨rfl, ⟨_, _, _, _, H.out⟩, Below.refl _ _⟩
end Go.Proofs.Ythgiopgapkjleaa
