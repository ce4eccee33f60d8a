/- Layer 28 (pay): the reference's Answer. -/
import Derived.Test.YthgiopgapkjleaaPayK
import Derived.Deep.RegionLaw
namespace Go.Proofs.Ythgiopgapkjleaa
open Go.RowKit
set_option linter.unusedVariables false
set_option linter.unusedSimpArgs false
attribute [local go_sem] ext_cell ext_frozen lt_ext ext_drew

theorem intsV_set (zs : List Int) (j : Nat) (x : Int) : intsV (zs.set j x) = (intsV zs).set j (.int .i64 x) := by simp [intsV, List.map_set]

theorem RefIs.ans_ {w : World} {rb base K g c1 : Nat} {r : RefS} {A2 : Option Addr} {c2 : Nat} (h : RefIs w rb base K r (some ⟨g, 0, none⟩) c1 A2 c2) {j : Nat} (hj : j < r.answers.length) {v : Int} (hv : 0 ≤ v ∧ v ≤ 2) :
    RefIs (w.setCell ⟨g, j, none⟩ (.int .i64 v)) rb base K { r with answers := r.answers.set j v } (some ⟨g, 0, none⟩) c1 A2 c2 := by
  have hs : Only (fun x => x = g) w (w.setCell ⟨g, j, none⟩ (.int .i64 v)) := (Only.refl (fun x => x = g) w).set_ (p := ⟨g, j, none⟩) (.inl rfl) _
  have hne : rb ≠ g := fun e => own_ne h.row h.bk (by decide) (by rw [e]; rfl)
  refine ⟨?_, ?_, own_only h.yes hs (fun x hx e => h.apart g rfl (by rw [hx, e])), ?_, h.base_, ?_, h.few2, h.tot, h.now, h.till, h.yesf, ?_⟩
  · have := h.bk.only hs hne
    show Bk _ _ _ _
    simp only [List.length_set]
    exact this
  · show World.ownsRow _ _ _ _ (.slice _ (r.answers.set j v).length c1) (r.answers.set j v).length (intsV (r.answers.set j v))
    rw [List.length_set, intsV_set]
    exact own_set h.row j hj _
  · show ∀ x, (Value.slice (some ⟨g, 0, none⟩) (r.answers.set j v).length c1).ownBlock = some x → _
    rw [List.length_set]; exact h.apart
  · show (r.answers.set j v).length ≤ 100
    rw [List.length_set]; exact h.few
  · intro x hx
    have hx' : x ∈ r.answers.set j v := hx
    rcases List.mem_or_eq_of_mem_set hx' with h1 | rfl
    · exact h.ansf x h1
    · exact hv

/-- The yes is noted. -/
theorem ryes_bk {W2 W : World} {rb base K : Nat} {r : RefS} {A1 : Option Addr} {c1 : Nat} {A2 : Option Addr} {c2 : Nat} (h : RefIs W rb base K r A1 c1 A2 c2) {A' : Option Addr} {c' : Nat} (hsz : base ≤ W.heap.size)
    (own2 : W2.ownsRow base 3 1 (.slice A' (r.yes.length + 1) c') (r.yes.length + 1) (intsV r.yes ++ [.int .i64 r.now])) (hg2 : W.grownBy W2 (Value.slice A2 r.yes.length c2).ownBlock)
    (hnew : A'.map (·.block) = (Value.slice A2 r.yes.length c2).ownBlock ∨ A'.map (·.block) = some W.heap.size) :
    RefBk W2 rb r A1 c1 A2 c2 ∧ RefIs (W2.setCell ⟨rb, 4, none⟩ (.slice A' (r.yes.length + 1) c')) rb base (K + 1) { r with yes := r.yes ++ [r.now] } A1 c1 A' c' := by
  have hbk2 : RefBk W2 rb r A1 c1 A2 c2 := grown_bk hg2 h.bk (fun e => own_ne h.yes h.bk (by decide) e.symm)
  have hset : Only (fun g => g = rb) W2 (W2.setCell ⟨rb, 4, none⟩ (.slice A' (r.yes.length + 1) c')) := (Only.refl (fun g => g = rb) W2).set_ (p := ⟨rb, 4, none⟩) (.inl rfl) _
  have hy2 : W2.ownsRow base 3 1 (.slice A1 r.answers.length c1) r.answers.length (intsV r.answers) :=
    own_only h.row ((Only.refl (fun g => (Value.slice A2 r.yes.length c2).ownBlock = some g) _).grown hg2 (fun g e => .inl e)) (fun g hg e => h.apart g hg e)
  refine ⟨hbk2, ⟨?_, ?_, ?_, ?_, h.base_, h.few, ?_, h.tot, h.now, h.till, ?_, h.ansf⟩⟩
  · have := hbk2.set_ 4 (.slice A' (r.yes.length + 1) c')
    show Bk _ _ _ _
    simp only [List.length_append, List.length_cons, List.length_nil]
    exact this
  · exact own_only hy2 hset (fun g hg e => by subst e; exact own_ne hy2 hbk2 (by decide) hg)
  · show World.ownsRow _ _ _ _ (.slice A' (r.yes ++ [r.now]).length c') (r.yes ++ [r.now]).length (intsV (r.yes ++ [r.now]))
    rw [List.length_append, intsV_snoc]
    exact own_only own2 hset (fun g hg e => by subst e; exact own_ne own2 hbk2 (by decide) hg)
  · show ∀ g, _ → (Value.slice A' (r.yes ++ [r.now]).length c').ownBlock ≠ some g
    intro g hg e
    have h9 := (own_lt h.row hg).2
    have h8 : A'.map (·.block) = some g := by cases A' with | none => simp [Value.ownBlock] at e | some a => simpa [Value.ownBlock] using e
    rcases hnew with hn | hn
    · rw [h8] at hn; exact h.apart g hg hn.symm
    · rw [h8] at hn; simp at hn; omega
  · show (r.yes ++ [r.now]).length ≤ K + 1
    rw [List.length_append]; have := h.few2; simp; omega
  · intro x hx
    have hx' : x ∈ r.yes ++ [r.now] := hx
    simp only [List.mem_append, List.mem_cons, List.not_mem_nil, or_false] at hx'
    rcases hx' with hx' | rfl
    · exact h.yesf x hx'
    · have := h.now; unfold fits; omega

/-- A new row of one cell. -/
def NewRow (B : Nat) (u : Value) (t : TypeId) (v : Value) (w : World) : Prop := ∃ b, v = .slice (some ⟨b, 0, none⟩) 1 1 ∧ B ≤ b ∧ Bk w b #[u] t
theorem NewRow.keep {B : Nat} {u : Value} {t : TypeId} {v : Value} {w w' : World} (h : NewRow B u t v w) (hb : Below w.heap.size w w') : NewRow B u t v w' := by
  obtain ⟨b, e, h1, h2⟩ := h
  exact ⟨b, e, h1, h2.below hb⟩
theorem wild_row {P : Program} {B : Nat} {w : World} {u : Value} {t : TypeId} {r : Result Next} (hb : B ≤ w.heap.size) (h : r = .ok (.value (.slice (some ⟨w.heap.size, 0, none⟩) 1 1)) (w.alloc (.cells #[u] t))) : wildUpon P w (NewRow B u t) r := by
  subst h
  refine ⟨(Below.refl _ _).alloc (Nat.le_refl _) _, ⟨_, rfl, hb, Bk.new w _ _⟩, fun b hb' => ?_⟩
  have : w.heap.size = b := by simpa [ownOf] using hb'
  subst this
  exact ⟨Nat.le_refl _, by simp⟩

theorem ansR_no {r : RefS} {a : Int} {y : Bool} {now : Int} (h : tickB now = false) : ansR r a y now = (r, 0, 1) := by unfold ansR; rw [h]; rfl
theorem ansR_far {r : RefS} {a : Int} {y : Bool} {now : Int} (h : tickB now = true) (ha : a < 1 ∨ (r.answers.length : Int) < a) : ansR r a y now = (passR r now, 0, 11) := by unfold ansR; rw [if_pos h, if_pos ha]
theorem ansR_at {r : RefS} {j : Nat} {y : Bool} {now x : Int} (h : tickB now = true) (hx : r.answers[j]? = some x) : ansR r ((j : Int) + 1) y now =
    if x ≠ 0 ∧ x ≠ encA (some y) then (passR r now, 0, 9) else if x = 0 then (tookR (passR r now) j y, stateR (tookR (passR r now) j y), 0) else (passR r now, stateR (passR r now), 0) := by
  have hj := (List.getElem?_eq_some_iff.1 hx).1
  have e : (((j : Int) + 1) - 1).toNat = j := by omega
  unfold ansR
  rw [if_pos h, if_neg (by omega), e, List.getD_eq_getElem?_getD, hx]
  rfl

set_option maxHeartbeats 2000000 in
set_option maxRecDepth 100000 in
theorem ranswer_any (w : World) (rb base K : Nat) (r : RefS) (A1 : Option Addr) (c1 : Nat) (A2 : Option Addr) (c2 : Nat) (a : Int) (y : Bool) (now : Int) (h : RefIs w rb base K r A1 c1 A2 c2) (hK : K < 1000) (fa : fits a) (fn : fits now) :
    Calls Try.prog 15 #[.pointer (some ⟨rb, 0, none⟩), .int .i64 a, .bool y, .int .i64 now] w (RefDid w rb base (K + 1) (ansR r a y now)) := by
  obtain ⟨f1, f2⟩ := fn
  obtain ⟨f3, f4⟩ := fa
  have hlt := h.bk.lt
  have hbase : base ≤ w.heap.size := by have := h.base_; omega
  by_cases ht : tickB now = true
  · obtain ⟨t1, t2⟩ := tickB_out ht
    have H2 := Lib.hid (h.now_ now ⟨t1, t2⟩)
    have Ht := Lib.hid ht
    have cb2 : w.cell? ⟨rb, 2, none⟩ = some (.int .i64 r.now) := h.bk.cell 2
    have fb2 := h.bk.free 2
    have hB2 : Hid (Below base w (w.setCell ⟨rb, 2, none⟩ (.int .i64 (max r.now now)))) := ((Only.refl (fun g => g = rb) w).set_ (p := ⟨rb, 2, none⟩) (.inl rfl) _).to_below (fun g hg => by have := h.base_; omega) hbase
    have hmx := ite_max
    have hfew := h.few
    have hfw := h.ansf
    obtain ⟨R, hR⟩ : ∃ R, ansR r a y now = R := ⟨_, rfl⟩
    rw [hR]
    have HR := Lib.hid hR
    have Hfw := Lib.hid hfw
    clear h ht hR hfw
    go_enter Try.func15, Try.ntmps15
    go_upto_region 4 with (fail)
    refine forget (fun W => RefIs W rb base K (passR r now) A1 c1 A2 c2 ∧ Below base w W) ⟨H2.out, hB2.out⟩ ?_
    clear H2 hB2 hmx cb2 fb2
    rintro W ⟨hW, hb⟩
    have HF := Lib.hid (And.intro hW hb)
    have cb3 : W.cell? ⟨rb, 3, none⟩ = some (.slice A1 r.answers.length c1) := hW.bk.cell 3
    have hl := hW.bk.lt
    have hbW : base ≤ W.heap.size := by have := hW.base_; omega
    have hmax : (r.answers.length : Int) ≤ 100 := by omega
    clear hW hb
    by_cases ha1 : a < 1
    · have e := HR.out.symm
      rw [ansR_far Ht.out (.inl ha1)] at e
      subst e
      clear HR
      go_wp2_with fail
      go_ret2
      exact ⟨rfl, ⟨_, _, _, _, HF.out.1.more⟩, HF.out.2⟩
    · by_cases ha2 : (r.answers.length : Int) < a
      · have e := HR.out.symm
        rw [ansR_far Ht.out (.inr ha2)] at e
        subst e
        clear HR
        go_wp2_with fail
        go_ret2
        exact ⟨rfl, ⟨_, _, _, _, HF.out.1.more⟩, HF.out.2⟩
      · obtain ⟨j, rfl⟩ : ∃ j : Nat, a = (j : Int) + 1 := ⟨(a - 1).toNat, by omega⟩
        have hj : j < r.answers.length := by omega
        obtain ⟨x, hx⟩ : ∃ x, r.answers[j]? = some x := ⟨_, List.getElem?_eq_getElem hj⟩
        have hxf := Hfw.out x (List.mem_of_getElem? hx)
        obtain ⟨g, cur, rfl, hg0, hg1, hgk, -⟩ := own_block HF.out.1.row (by show 0 < r.answers.length; omega)
        have cx : W.cell? ⟨g, j, none⟩ = some (.int .i64 x) := by
          rw [HF.out.1.row.cellAt j (by show j < r.answers.length * 1; omega)]
          show (intsV r.answers)[j]? = _
          simp [intsV, hx]
        have fx := hgk.free j
        have e := HR.out.symm
        rw [ansR_at Ht.out hx] at e
        have HE := Lib.hid e
        have hj' : (j : Int) < (r.answers.length : Int) := by omega
        clear HR e hx hgk ha1 ha2 hg0 f3 f4 f1 f2
        have hpart : (y = true ∧ x = 1) ∨ (y = false ∧ x = 2) ∨ (y = true ∧ x = 2) ∨ (y = false ∧ x = 1) ∨ (y = false ∧ x = 0) ∨ (y = true ∧ x = 0) := by
          rcases (show x = 0 ∨ x = 1 ∨ x = 2 by omega) with h1 | h1 | h1 <;> cases y <;> simp [h1]
        rcases hpart with ⟨rfl, rfl⟩ | ⟨rfl, rfl⟩ | ⟨rfl, rfl⟩ | ⟨rfl, rfl⟩ | ⟨rfl, rfl⟩ | ⟨rfl, rfl⟩
        · obtain rfl : R = (passR r now, stateR (passR r now), 0) := HE.out
          go_wp2_with (go_at_call 17; refine (rstate_any _ _ _ _ _ _ _ _ _ HF.out.1 (by omega)).mono ?_; rintro e w' ⟨rfl, n, rfl⟩)
          go_ret2
          exact ⟨rfl, ⟨_, _, _, _, (HF.out.1.drew _).more⟩, below_drewN HF.out.2 _⟩
        · obtain rfl : R = (passR r now, stateR (passR r now), 0) := HE.out
          go_wp2_with (go_at_call 17; refine (rstate_any _ _ _ _ _ _ _ _ _ HF.out.1 (by omega)).mono ?_; rintro e w' ⟨rfl, n, rfl⟩)
          go_ret2
          exact ⟨rfl, ⟨_, _, _, _, (HF.out.1.drew _).more⟩, below_drewN HF.out.2 _⟩
        · obtain rfl : R = (passR r now, 0, 9) := HE.out
          go_wp2_with fail
          go_ret2
          exact ⟨rfl, ⟨_, _, _, _, HF.out.1.more⟩, HF.out.2⟩
        · obtain rfl : R = (passR r now, 0, 9) := HE.out
          go_wp2_with fail
          go_ret2
          exact ⟨rfl, ⟨_, _, _, _, HF.out.1.more⟩, HF.out.2⟩
        · obtain rfl : R = (tookR (passR r now) j false, stateR (tookR (passR r now) j false), 0) := HE.out
          have hN := HF.out.1.ans_ (j := j) hj (v := 2) (by omega)
          have HN := Lib.hid hN
          have hbN : Hid (Below base w (W.setCell ⟨g, j, none⟩ (.int .i64 2))) := HF.out.2.trans (((Only.refl (fun x => x = g) W).set_ (p := ⟨g, j, none⟩) (.inl rfl) _).to_below (fun x hx => by have := (own_lt HF.out.1.row (g := g) rfl).1; omega) hbW)
          clear hN
          go_wp2_with (go_at_call 17; refine (rstate_any _ _ _ _ (tookR (passR r now) j false) _ _ _ _ HN.out (by omega)).mono ?_; rintro e w' ⟨rfl, n, rfl⟩)
          go_ret2
          exact ⟨rfl, ⟨_, _, _, _, (RefIs.drew (r := tookR (passR r now) j false) HN.out _).more⟩, below_drewN hbN.out _⟩
        · obtain rfl : R = (tookR (passR r now) j true, stateR (tookR (passR r now) j true), 0) := HE.out
          have hN := HF.out.1.ans_ (j := j) hj (v := 1) (by omega)
          have hbN : Below base w (W.setCell ⟨g, j, none⟩ (.int .i64 1)) := HF.out.2.trans (((Only.refl (fun x => x = g) W).set_ (p := ⟨g, j, none⟩) (.inl rfl) _).to_below (fun x hx => by have := (own_lt HF.out.1.row (g := g) rfl).1; omega) hbW)
          have HN := Lib.hid (And.intro hN hbN)
          obtain ⟨r1, hr1⟩ : ∃ r1 : RefS, { passR r now with answers := (passR r now).answers.set j 1 } = r1 := ⟨_, rfl⟩
          have ht1 : tookR (passR r now) j true = { r1 with yes := r1.yes ++ [r1.now] } := by rw [← hr1]; rfl
          clear hN hbN
          go_upto_region 15 with (fail)
          refine forget (fun X => RefIs X rb base K r1 (some ⟨g, 0, none⟩) c1 A2 c2 ∧ Below base w X) ⟨by rw [← hr1]; exact HN.out.1, HN.out.2⟩ ?_
          have HT1 := Lib.hid ht1
          clear hr1 ht1 HN HF cb3 cx fx hl
          rintro X ⟨hX, hbX⟩
          have HX := Lib.hid (And.intro hX hbX)
          have cy : X.cell? ⟨rb, 4, none⟩ = some (.slice A2 r1.yes.length c2) := hX.bk.cell 4
          have fy := hX.bk.free 4
          have cn : X.cell? ⟨rb, 2, none⟩ = some (.int .i64 r1.now) := hX.bk.cell 2
          have hl := hX.bk.lt
          have hbX2 : base ≤ X.heap.size := by have := hX.base_; omega
          have hy9 : r1.yes.length ≤ 1000 := by have := hX.few2; omega
          obtain ⟨il, zl, i1, i2, i3, i4, i5⟩ := info_of infoInt
          clear hX hbX
          go_region_law (first | (refine step_append2 rfl _ _ _ rfl base _ il zl 1 8 Try.underlying61 i1 i2 i3 i4 i5 (by decide) r1.yes.length (intsV r1.yes) rfl (own_alloc HX.out.1.yes _) (some ⟨X.heap.size, 0, none⟩) 1 1 [.int .i64 r1.now] rfl rfl (lies_bk (Bk.new _ _ _) 1) (by simp [Value.oneCell']) (by unfold maxLen; omega) (by omega) (by simp; omega) (r1.yes.length + 1) (intsV r1.yes ++ [.int .i64 r1.now]) rfl rfl ?_; intro A' c' w3 own2 hb3 hg2 hnew; obtain ⟨hk3, hR3⟩ := ryes_bk (HX.out.1.below (by (repeat (first | with_reducible exact Below.refl _ _ | with_reducible assumption | with_reducible refine Below.alloc0 ?_ _ | with_reducible refine Below.ext0 ?_ _ | with_reducible refine Below.drew ?_ | with_reducible refine below_drewN ?_ _ | (with_reducible refine Below.setCell (hp := ?hp) ?_ _; case hp => (first | (simp; done) | (simp; omega))))))) (by simp; omega) own2 hg2 hnew; have hk3 : Bk w3 rb #[.int .i64 r1.total, .int .i64 r1.till, .int .i64 r1.now, .slice (some ⟨g, 0, none⟩) r1.answers.length c1, .slice A2 r1.yes.length c2] 63 := hk3; have HY := Lib.hid (And.intro hR3 ((HX.out.2.trans (show Below base X _ from (((Below.refl base X).drew).alloc hbX2 _))).trans hb3)); have cB' : w3.cell? ⟨rb, 4, none⟩ = some (.slice A2 r1.yes.length c2) := hk3.cell 4; have fB' := hk3.free 4; have lB' := hk3.lt; clear own2 hb3 hg2 hnew hk3 hR3))
          all_goals
            have hrb : base ≤ rb := HX.out.1.base_
            go_wp2_with (go_at_call 17; refine (rstate_any _ _ _ _ { r1 with yes := r1.yes ++ [r1.now] } _ _ _ _ HY.out.1 (by omega)).mono ?_; rintro e w' ⟨rfl, n, rfl⟩)
            go_ret2
            exact ⟨by first | (rw [HT1.out]; done) | (rw [HT1.out]; rfl) | (simp only [HT1.out]; done), ⟨_, _, _, _, by rw [HT1.out]; exact RefIs.drew (r := { r1 with yes := r1.yes ++ [r1.now] }) HY.out.1 _⟩, below_drewN (HY.out.2.trans (((Only.refl (fun g => g = rb) w3).set_ (p := ⟨rb, 4, none⟩) (.inl rfl) _).to_below (fun g hg => by omega) (by omega))) _⟩
  · have hno := tickB_no (by simpa using ht)
    rw [ansR_no (by simpa using ht)]
    have H := Lib.hid h
    clear h ht
    rcases hno with hno | hno
    all_goals
      go_enter Try.func15, Try.ntmps15
      go_wp2_with fail
      go_ret2
      exact ⟨rfl, ⟨_, _, _, _, H.out.more⟩, Below.refl _ _⟩
end Go.Proofs.Ythgiopgapkjleaa
