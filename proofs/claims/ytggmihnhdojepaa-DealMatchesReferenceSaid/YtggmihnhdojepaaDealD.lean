/- Layer 34 (deal), means: the names and amounts that deal.total looks at, in a closure that keeps a map of names and a sum. -/
import Derived.Test.YtggmihnhdojepaaDealC
import Derived.Test.YtggmihnhdojepaaMap
namespace Go.Proofs.Ytggmihnhdojepaa
open Go.RowKit
set_option linter.unusedVariables false
set_option linter.unusedSimpArgs false
attribute [local go_sem] ext_cell ext_frozen lt_ext ext_drew

/-! ### in plain words -/
abbrev Mn := ByteArray × Int
def meanB (m : Mn) : Bool := nameB m.1 && decide (1 ≤ m.2) && decide (m.2 ≤ 1000000000)
def hasM (ms : List Mn) (c : ByteArray) : Bool := ms.any fun x => decide (x.1 = c)
def badM (ms : List Mn) (k : Nat) (m : Mn) : Bool := hasM (ms.take k) m.1 || !meanB m
def okTo (ms : List Mn) (k : Nat) : Prop := ∀ j, j < k → ∀ m, ms[j]? = some m → badM ms j m = false
def okM (ms : List Mn) : Bool := (List.range ms.length).all fun k => match ms[k]? with | none => true | some m => !badM ms k m
def sumM (ms : List Mn) : Int := (ms.map (·.2)).foldr (· + ·) 0
def seenF (ms : List Mn) : ByteArray → Option Bool := fun c => if hasM ms c then some true else none

theorem okM_bad {ms : List Mn} {k : Nat} {m : Mn} (h : ms[k]? = some m) (hb : badM ms k m = true) : okM ms = false := by
  unfold okM
  rw [List.all_eq_false]
  refine ⟨k, List.mem_range.2 (List.getElem?_eq_some_iff.1 h).1, ?_⟩
  rw [h]; simp [hb]
theorem okM_all {ms : List Mn} (h : okTo ms ms.length) : okM ms = true := by
  unfold okM
  rw [List.all_eq_true]
  intro k hk
  have hk' := List.mem_range.1 hk
  rw [List.getElem?_eq_getElem hk']
  simp [h k hk' _ (List.getElem?_eq_getElem hk')]
theorem okTo_step {ms : List Mn} {k : Nat} {m : Mn} (h : okTo ms k) (hm : ms[k]? = some m) (hb : badM ms k m = false) : okTo ms (k + 1) := fun j hj m' hm' => by
  by_cases e : j = k
  · subst e; rw [hm] at hm'; simp only [Option.some.injEq] at hm'; rw [← hm']; exact hb
  · exact h j (by omega) m' hm'
theorem sumM_append (a b : List Mn) : sumM (a ++ b) = sumM a + sumM b := by
  induction a with
  | nil => simp [sumM]
  | cons x a ih => simp only [sumM, List.cons_append, List.map_cons, List.foldr_cons] at ih ⊢; omega
theorem sumM_take {ms : List Mn} {k : Nat} {m : Mn} (h : ms[k]? = some m) : sumM (ms.take (k + 1)) = sumM (ms.take k) + m.2 := by
  rw [List.take_add_one, h, sumM_append]
  simp [sumM]
theorem badM_false {ms : List Mn} {k : Nat} {m : Mn} (h : badM ms k m = false) : hasM (ms.take k) m.1 = false ∧ meanB m = true := by
  unfold badM at h; simpa using h
theorem meanB_out {m : Mn} (h : meanB m = true) : nameB m.1 = true ∧ 1 ≤ m.2 ∧ m.2 ≤ 1000000000 := by
  unfold meanB at h; simp only [Bool.and_eq_true, decide_eq_true_eq] at h; exact ⟨h.1.1, h.1.2, h.2⟩
theorem okTo_sum {ms : List Mn} : ∀ (k : Nat), k ≤ ms.length → okTo ms k → 0 ≤ sumM (ms.take k) ∧ sumM (ms.take k) ≤ 1000000000 * k
  | 0, _, _ => by simp [sumM]
  | k + 1, hk, h => by
    have ih := okTo_sum k (by omega) (fun j hj => h j (by omega))
    have hg : ms[k]? = some ms[k] := List.getElem?_eq_getElem (by omega)
    have hb := (meanB_out (badM_false (h k (by omega) _ hg)).2)
    rw [sumM_take hg]
    omega
theorem hasM_take {ms : List Mn} {k : Nat} {m : Mn} (h : ms[k]? = some m) (c : ByteArray) : hasM (ms.take (k + 1)) c = (hasM (ms.take k) c || decide (m.1 = c)) := by
  unfold hasM
  rw [List.take_add_one, h, List.any_append]
  simp
theorem seenF_put {ms : List Mn} {k : Nat} {m : Mn} (h : ms[k]? = some m) : putF (seenF (ms.take k)) m.1 true = seenF (ms.take (k + 1)) := by
  funext c
  unfold putF seenF
  rw [hasM_take h]
  by_cases e : c = m.1
  · subst e; simp
  · rw [if_neg e, decide_eq_false (fun h => e h.symm), Bool.or_false]
theorem seenF_get (ms : List Mn) (c : ByteArray) : (seenF ms c).getD false = hasM ms c := by
  unfold seenF; cases hasM ms c <;> rfl

/-! ### the closure -/
def litS (x : ByteArray) : Lit := .string x.data.toList
theorem litS_inj : ∀ x y, litS x = litS y → x = y := fun x y h => by
  obtain ⟨⟨a⟩⟩ := x
  obtain ⟨⟨b⟩⟩ := y
  simp only [litS, Lit.string.injEq] at h
  rw [h]
theorem keyedS : Go.Maps.Keyed Try.prog 9 := Go.Maps.string_keyed Try.underlying9
theorem keyS {x : ByteArray} (h : x.size ≤ maxLen) : keyOf Try.prog 9 (.string x) = some (litS x) := by
  exact WideMaps.keyOf_string_mk Try.underlying9 h

theorem zeroB (w : World) : (zeroValue 4).run Try.prog w = .ok (.bool false) w := by kernel_rfl
def MeanSeen (w : World) (qb mb m : Nat) (f : ByteArray → Option Bool) (nm : ByteArray) (a S : Int) (e : Ending) (w' : World) : Prop :=
  e = .returned (.bool ((f nm).getD false || !meanB (nm, a))) ∧ ∃ (S' : Int) (m' : Nat), Bk w' qb #[.int .i64 S'] 3 ∧ (meanB (nm, a) = true → S' = S + a) ∧ MapB litS Try.prog 9 4 w' mb m' (putF f nm true) ∧ m' ≤ m + 1 ∧ Only (fun g => g = qb ∨ g = mb) w w'

theorem MapB.ne {κ : Type} {lit : κ → Lit} {P : Program} {k e t : TypeId} {w : World} {mb m qb : Nat} {f : κ → Option Bool} {C : Array Value} (h : MapB lit P k e w mb m f) (hk : Bk w qb C t) : qb ≠ mb := by
  intro e
  subst e
  obtain ⟨D, ⟨es, clock, hb, _⟩, _⟩ := h
  have := hk.symm.trans hb
  simp at this

set_option maxHeartbeats 2000000 in
theorem mean_bad (nm : ByteArray) (a S : Int) (w : World) (sb qb mb m : Nat) (f : ByteArray → Option Bool) (hs : Bk w sb #[.map (some mb)] 87) (hq : Bk w qb #[.int .i64 S] 3) (hm : MapB litS Try.prog 9 4 w mb m f)
    (hm' : m ≤ 1000) (hS : 0 ≤ S ∧ S ≤ 1000000000000) (fa : fits a) (hn : nm.size ≤ maxLen) :
    Calls Try.prog 49 #[.agg #[.string nm, .int .i64 a], .pointer (some ⟨sb, 0, none⟩), .pointer (some ⟨qb, 0, none⟩)] w (MeanSeen w qb mb m f nm a S) := by
  obtain ⟨s1, s2⟩ := hS
  obtain ⟨a1, a2⟩ := fa
  have hne := hm.ne hq
  have hne2 := hm.ne hs
  have cs : w.cell? ⟨sb, 0, none⟩ = some (.map (some mb)) := hs.cell 0
  have ls := hs.lt
  have lq := hq.lt
  have lm := hm.lt
  have bP := Bk.new w #[.string nm, .int .i64 a] 45
  have HM := Lib.hid (hm.below (below_self w (.cells #[.string nm, .int .i64 a] 45)))
  have HB := Lib.hid (And.intro (hq.below (below_self w (.cells #[.string nm, .int .i64 a] 45))) bP)
  obtain ⟨ag, hag⟩ : ∃ v, (f nm).getD false = v := ⟨_, rfl⟩
  obtain ⟨nb, hnb⟩ : ∃ v, nameB nm = v := ⟨_, rfl⟩
  obtain ⟨mn, hmn⟩ : ∃ v, meanB (nm, a) = v := ⟨_, rfl⟩
  have hmn2 : mn = (nb && decide (1 ≤ a) && decide (a ≤ 1000000000)) := by rw [← hmn, ← hnb]; rfl
  have Hag := Lib.hid hag
  have Hnb := Lib.hid hnb
  have Hmn := Lib.hid hmn
  have Hmn2 := Lib.hid hmn2
  have hml : m < maxLen := by unfold maxLen; omega
  have hname : ∀ W, Calls Try.prog 28 #[.string nm] W fun e w' => e = .returned (.bool nb) ∧ W = w' := fun W =>
    (name_any nm W hn).mono fun e w' ⟨he, hw⟩ => ⟨by rw [he, Hnb.out], hw⟩
  have Hname := Lib.hid hname
  clear hag hnb hmn hmn2 hname hs hq hm bP
  unfold maxLen at hn
  cases mn
  · have hno : nb = false ∨ (nb = true ∧ a < 1) ∨ (nb = true ∧ 1 ≤ a ∧ 1000000000 < a) := by
      have h := Hmn2.out
      cases nb
      · exact .inl rfl
      · right
        by_cases h1 : a < 1
        · exact .inl ⟨rfl, h1⟩
        · right
          rw [decide_eq_true (show 1 ≤ a by omega)] at h
          simp at h
          exact ⟨rfl, by omega, h⟩
    clear Hmn2
    rcases hno with rfl | ⟨rfl, hno⟩ | ⟨rfl, hno, hno2⟩
    all_goals
      cases ag
      all_goals
        go_enter Try.func49, Try.ntmps49
        go_wp2_with (first
          | (at_lookup; refine list_look rfl _ _ _ rfl 9 4 keyedS Try.underlying87 Try.underlying4 (zeroB _) rfl HM.out _ nm rfl (keyS (by unfold maxLen; exact hn)) ?_; rw [Hag.out])
          | (at_mapUpdate; refine list_store rfl _ _ _ _ rfl 9 4 keyedS Try.underlying87 Try.underlying4 litS_inj hml rfl HM.out _ nm rfl (keyS (by unfold maxLen; exact hn)) _ rfl ?_; intro w2 hm2 ho2; have bq2 := HB.out.1.only ho2 hne; have bp2 := HB.out.2.only ho2 (by omega); have cq2 : w2.cell? ⟨qb, 0, none⟩ = some (.int .i64 S) := bq2.cell 0; have fq2 := bq2.free 0; have lq2 := bq2.lt; have cp2 := bp2.cell 0; have cp3 := bp2.cell 1; have lp2 := bp2.lt; have HQ := Lib.hid (And.intro bq2 (And.intro hm2 ho2)); clear bq2 bp2 hm2 ho2)
          | (go_at_call 28; refine (Hname.out _).mono ?_; rintro e w' ⟨rfl, rfl⟩))
        all_goals go_ret
        all_goals refine ⟨ret_bool (by rw [Hag.out, Hmn.out]; first | rfl | (simp; omega)), _, _, HQ.out.1.set_ 0 _, fun h => absurd (Hmn.out.symm.trans h) (by decide), HQ.out.2.1.only ((Only.refl (fun g => g = qb) _).set_ (p := ⟨qb, 0, none⟩) (.inl rfl) _) (fun h => hne h.symm), by split <;> omega, ?_⟩
        all_goals exact ((((Only.refl (fun g => g = qb ∨ g = mb) w).alloc _).trans (HQ.out.2.2.mono fun g hg => .inr hg))).set_ (p := ⟨qb, 0, none⟩) (.inl (.inl rfl)) _
  · have hyes : nb = true ∧ 1 ≤ a ∧ a ≤ 1000000000 := by
      have h := Hmn2.out.symm
      simp only [Bool.and_eq_true, decide_eq_true_eq] at h
      exact ⟨h.1.1, h.1.2, h.2⟩
    obtain ⟨rfl, y1, y2⟩ := hyes
    clear Hmn2
    cases ag
    all_goals
      go_enter Try.func49, Try.ntmps49
      go_wp2_with (first
        | (at_lookup; refine list_look rfl _ _ _ rfl 9 4 keyedS Try.underlying87 Try.underlying4 (zeroB _) rfl HM.out _ nm rfl (keyS (by unfold maxLen; exact hn)) ?_; rw [Hag.out])
        | (at_mapUpdate; refine list_store rfl _ _ _ _ rfl 9 4 keyedS Try.underlying87 Try.underlying4 litS_inj hml rfl HM.out _ nm rfl (keyS (by unfold maxLen; exact hn)) _ rfl ?_; intro w2 hm2 ho2; have bq2 := HB.out.1.only ho2 hne; have bp2 := HB.out.2.only ho2 (by omega); have cq2 : w2.cell? ⟨qb, 0, none⟩ = some (.int .i64 S) := bq2.cell 0; have fq2 := bq2.free 0; have lq2 := bq2.lt; have cp2 := bp2.cell 0; have cp3 := bp2.cell 1; have lp2 := bp2.lt; have HQ := Lib.hid (And.intro bq2 (And.intro hm2 ho2)); clear bq2 bp2 hm2 ho2)
        | (go_at_call 28; refine (Hname.out _).mono ?_; rintro e w' ⟨rfl, rfl⟩))
      all_goals go_ret
      all_goals refine ⟨ret_bool (by rw [Hag.out, Hmn.out]; first | rfl | (simp; omega)), S + a, _, HQ.out.1.set_ 0 _, fun h => rfl, HQ.out.2.1.only ((Only.refl (fun g => g = qb) _).set_ (p := ⟨qb, 0, none⟩) (.inl rfl) _) (fun h => hne h.symm), by split <;> omega, ?_⟩
      all_goals exact ((((Only.refl (fun g => g = qb ∨ g = mb) w).alloc _).trans (HQ.out.2.2.mono fun g hg => .inr hg))).set_ (p := ⟨qb, 0, none⟩) (.inl (.inl rfl)) _
end Go.Proofs.Ytggmihnhdojepaa
