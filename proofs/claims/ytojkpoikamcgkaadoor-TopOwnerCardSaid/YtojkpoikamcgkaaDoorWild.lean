/- A region that draws its order, some of whose operations make new memory (a variable, a slice, a callee's result) whose place hangs on the order: the others are walked once; of each maker only what it is good for is told; a forced tail follows. -/
import Derived.Test.YtojkpoikamcgkaaDoorExt
namespace Go.Proofs.YtojkpoikamcgkaaDoor
open Go.RowKit
set_option linter.unusedVariables false

/-- The block that a value points to. -/
def ownOf : Value → Option Nat
  | .pointer (some a) => some a.block
  | .slice (some a) _ _ => some a.block
  | _ => none

/-- What is asked of a maker in the world w: some value, in a world that continues w; the value is good for R; its memory is new. -/
def wildUpon (P : Program) (w : World) (R : Value → World → Prop) : Result Next → Prop
  | .ok (.value u) w' => Below w.heap.size w w' ∧ R u w' ∧ ∀ b, ownOf u = some b → w.heap.size ≤ b ∧ b < w'.heap.size
  | .ok (.enter f args) w' => w' = w ∧ Calls P f args w fun e w'' => ∃ u, e = .returned u ∧ Below w.heap.size w w'' ∧ R u w'' ∧ ∀ b, ownOf u = some b → w.heap.size ≤ b ∧ b < w''.heap.size
  | _ => False

def mute (o : Oper) : Oper := { o with op := .move (.const undef) }
def muteAt (wl : List Nat) : Nat → List Oper → List Oper
  | _, [] => []
  | i, o :: r => (if wl.contains i then mute o else o) :: muteAt wl (i + 1) r

theorem muteAt_at (wl : List Nat) : ∀ (l : List Oper) (i k : Nat), (muteAt wl i l)[k]? = (l[k]?).map fun o => if wl.contains (i + k) then mute o else o
  | [], i, k => by simp [muteAt]
  | o :: r, i, 0 => by simp [muteAt]
  | o :: r, i, k + 1 => by
    simp only [muteAt, List.getElem?_cons_succ]
    rw [muteAt_at wl r (i + 1) k]
    congr 2
    funext o
    rw [show i + 1 + k = i + (k + 1) by omega]

section
variable {P : Program} {ops : Array Oper} {md : Region.Mode} {C : World → Prop}

theorem put_ne {a : Act} {d : Option Tmp} {v : Value} {t : Nat} (h : d ≠ some t) : (a.put d v).tmps[t]? = a.tmps[t]? := by
  cases d with
  | none => rfl
  | some e => exact Array.getElem?_setIfInBounds_ne (fun he => h (by rw [he]))
theorem put_eq {a : Act} {v : Value} {t : Nat} (h : t < a.tmps.size) : (a.put (some t) v).tmps[t]? = some v := by
  show (a.tmps.setIfInBounds t v)[t]? = _
  rw [Array.getElem?_setIfInBounds_self, if_pos h]
theorem put_size (a : Act) (d : Option Tmp) (v : Value) : (a.put d v).tmps.size = a.tmps.size := by
  cases d with
  | none => rfl
  | some e => exact Array.size_setIfInBounds
theorem put_defers (a : Act) (d : Option Tmp) (v : Value) : (a.put d v).defers = a.defers := by cases d <;> rfl

/-- What the walk in the text's order says of each operation: the frame in which it stood, and its value, which the last frame still has. -/
theorem lex_spec : ∀ (l : List Oper) (a aF : Act), l.Pairwise (fun o o' => ∀ t, o.dst = some t → o'.dst ≠ some t) → wpQuiet P ops C (fun a' => a' = aF) l a →
    aF.tmps.size = a.tmps.size ∧ aF.defers = a.defers ∧ (∀ t, (∀ o ∈ l, o.dst ≠ some t) → aF.tmps[t]? = a.tmps[t]?) ∧
    ∀ k o, l[k]? = some o → ∃ aL v, YieldsIn P ops C o v aL ∧ (∀ t, o.dst = some t → t < a.tmps.size → aF.tmps[t]? = some v) ∧
      (∀ t, (∀ (k' : Nat) (o' : Oper), k' < k → l[k']? = some o' → o'.dst ≠ some t) → aL.tmps[t]? = a.tmps[t]?) ∧ (∀ t, (∀ (k' : Nat) (o' : Oper), k ≤ k' → l[k']? = some o' → o'.dst ≠ some t) → aL.tmps[t]? = aF.tmps[t]?)
  | [], a, aF, _, h => by
    have e : a = aF := h
    subst e
    exact ⟨rfl, rfl, fun _ _ => rfl, fun k o hk => by simp at hk⟩
  | o :: l, a, aF, hd, h => by
    obtain ⟨hd1, hd2⟩ := List.pairwise_cons.1 hd
    obtain ⟨v, hy, hr⟩ : ∃ v, YieldsIn P ops C o v a ∧ wpQuiet P ops C (fun a' => a' = aF) l (a.put o.dst v) := by
      unfold wpQuiet at h
      by_cases hw : Region.wanted o (yielded ops a.tmps) = true
      · rw [if_pos hw] at h
        obtain ⟨v, h1, h2⟩ := h
        exact ⟨v, .inl ⟨hw, h1⟩, h2⟩
      · rw [if_neg hw] at h
        exact ⟨undef, .inr ⟨by simpa using hw, rfl⟩, h⟩
    obtain ⟨s1, s2, s3, s4⟩ := lex_spec l (a.put o.dst v) aF hd2 hr
    rw [put_size] at s1
    rw [put_defers] at s2
    have s3' : ∀ t, (∀ x ∈ o :: l, x.dst ≠ some t) → aF.tmps[t]? = a.tmps[t]? := fun t ht => by
      rw [s3 t (fun x hx => ht x (List.mem_cons_of_mem _ hx)), put_ne (ht o (List.mem_cons_self ..))]
    refine ⟨s1, s2, s3', fun k x hk => ?_⟩
    cases k with
    | zero =>
      have e : o = x := by simpa using hk
      subst e
      refine ⟨a, v, hy, fun t ht hlt => ?_, fun t _ => rfl, fun t ht => ?_⟩
      · rw [s3 t (fun y hy' => hd1 y hy' t ht), ht]
        exact put_eq hlt
      · refine (s3' t fun y hy' => ?_).symm
        obtain ⟨k', hk', rfl⟩ := List.mem_iff_getElem.1 hy'
        exact ht k' _ (by omega) (List.getElem?_eq_getElem hk')
    | succ k =>
      obtain ⟨aL, v', y1, y2, y3, y4⟩ := s4 k x (by simpa using hk)
      refine ⟨aL, v', y1, fun t ht hlt => y2 t ht (by rw [put_size]; exact hlt), fun t ht => ?_, fun t ht => ?_⟩
      · rw [y3 t (fun k' o' hk' ho' => ht (k' + 1) o' (by omega) (by simpa using ho'))]
        exact put_ne (ht 0 o (by omega) rfl)
      · exact y4 t (fun k' o' hk' ho' => ht (k' + 1) o' (by omega) (by simpa using ho'))

/-- Frames that agree on what an operation looks at run it alike. -/
theorem exec_agree {o : Oper} (hs : ∀ cs b, o.op ≠ .select cs b) {a a' : Act} (h : ∀ t ∈ o.looksAt ops, a.tmps[t]? = a'.tmps[t]?) : execOp a.eval o = execOp a'.eval o :=
  execOp_congr o hs fun x hx => by
    cases x with
    | tmp t =>
      have := h t (List.mem_append_left _ (List.mem_filterMap.2 ⟨.tmp t, by simpa using hx, rfl⟩))
      simp only [Act.eval, Array.getD_eq_getD_getElem?, this]
    | _ => rfl
theorem wanted_agree {o : Oper} {a a' : Act} (h : ∀ t ∈ o.looksAt ops, a.tmps[t]? = a'.tmps[t]?) : Region.wanted o (yielded ops a.tmps) = Region.wanted o (yielded ops a'.tmps) := by
  unfold Region.wanted
  cases hg : o.guard with
  | none => rfl
  | some gw =>
    obtain ⟨g, want⟩ := gw
    have hy : yielded ops a.tmps g = yielded ops a'.tmps g := by
      unfold yielded
      cases ht : (ops[g]?).bind (·.dst) with
      | none => rfl
      | some t =>
        have := h t (by simp [Oper.looksAt, hg, ht])
        simp only [Option.bind_some, this]
    simp only [hy]
end

/-- The first n of k marks set. -/
def prefArr (n k : Nat) : Array Bool := ((List.range k).map fun i => decide (i < n)).toArray

/-- The conditions on the region's text. -/
def wildB (md : Region.Mode) (ops : Array Oper) (n : Nat) (wl : List Nat) (m : Nat) : Bool :=
  Region.noSelect ops && decide (n < ops.size) && Region.sinkB md ops n && Region.chainB md ops n && Region.seqB md ops (ops.size - n) n (prefArr n ops.size) &&
  (List.range n).all (fun i => match ops[i]? with
    | some o => (o.after.all fun e => !Region.binds md e || decide (e.on < i)) && (match o.dst with | some t => decide (t < m) | none => true) &&
      (List.range n).all (fun j => match ops[j]? with
        | some o' => (match o'.dst with
          | some t => (decide (i = j) || o.dst != some t) && (!(o.looksAt ops).contains t || (decide (j < i) && !wl.contains j && Region.waitsFor md ops i j))
          | none => true)
        | none => true)
    | none => false) &&
  wl.all (fun j => decide (j < n) && (match ops[j]? with | some o => o.guard.isNone && o.dst.isSome | none => false))

structure WildOK (md : Region.Mode) (ops : Array Oper) (n : Nat) (wl : List Nat) (m : Nat) : Prop where
  sel : Region.noSelect ops = true
  lt : n < ops.size
  sink : Region.sinkB md ops n = true
  chain : Region.chainB md ops n = true
  seq : Region.seqB md ops (ops.size - n) n (prefArr n ops.size) = true
  back : ∀ i o, i < n → ops[i]? = some o → ∀ e ∈ o.after, Region.binds md e = true → e.on < i
  room : ∀ i o t, i < n → ops[i]? = some o → o.dst = some t → t < m
  dist : ∀ i j o o' t, i < n → j < n → i ≠ j → ops[i]? = some o → ops[j]? = some o' → o.dst = some t → o'.dst ≠ some t
  look : ∀ i j o o' t, i < n → j < n → ops[i]? = some o → ops[j]? = some o' → t ∈ o.looksAt ops → o'.dst = some t → j < i ∧ j ∉ wl ∧ Region.waitsFor md ops i j = true
  wild : ∀ j ∈ wl, j < n ∧ ∃ o t, ops[j]? = some o ∧ o.guard = none ∧ o.dst = some t

theorem WildOK.of {md : Region.Mode} {ops : Array Oper} {n : Nat} {wl : List Nat} {m : Nat} (h : wildB md ops n wl m = true) : WildOK md ops n wl m := by
  unfold wildB at h
  simp only [Bool.and_eq_true, decide_eq_true_eq] at h
  obtain ⟨⟨⟨⟨⟨⟨h1, h2⟩, h3⟩, h4⟩, h5⟩, h6⟩, h7⟩ := h
  have key : ∀ i o, i < n → ops[i]? = some o → (o.after.all fun e => !Region.binds md e || decide (e.on < i)) = true ∧ (match o.dst with | some t => decide (t < m) | none => true) = true ∧
      ∀ j o', j < n → ops[j]? = some o' → ∀ t, o'.dst = some t → (i = j ∨ o.dst ≠ some t) ∧ (t ∈ o.looksAt ops → j < i ∧ j ∉ wl ∧ Region.waitsFor md ops i j = true) := fun i o hi ho => by
    have k := List.all_eq_true.1 h6 i (List.mem_range.2 hi)
    rw [ho] at k
    simp only [Bool.and_eq_true] at k
    refine ⟨k.1.1, k.1.2, fun j o' hj ho' t ht => ?_⟩
    have k2 := List.all_eq_true.1 k.2 j (List.mem_range.2 hj)
    rw [ho'] at k2
    simp only [ht, Bool.and_eq_true, Bool.or_eq_true, decide_eq_true_eq, bne_iff_ne, ne_eq, Bool.not_eq_true', List.contains_eq_mem, decide_eq_false_iff_not] at k2
    refine ⟨k2.1, fun hin => ?_⟩
    rcases k2.2 with hno | ⟨⟨a1, a2⟩, a3⟩
    · exact absurd hin hno
    · exact ⟨a1, a2, a3⟩
  refine ⟨h1, h2, h3, h4, h5, fun i o hi ho e he hb => ?_, fun i o t hi ho ht => ?_, fun i j o o' t hi hj hne ho ho' ht ht' => ?_, fun i j o o' t hi hj ho ho' hin ht' => ?_, fun j hj => ?_⟩
  · have := Array.all_eq_true_iff_forall_mem.1 (key i o hi ho).1 e he
    simpa [hb] using this
  · have := (key i o hi ho).2.1
    simpa [ht] using this
  · rcases ((key i o hi ho).2.2 j o' hj ho' t ht').1 with h | h
    · exact hne h
    · exact h ht
  · exact ((key i o hi ho).2.2 j o' hj ho' t ht').2 hin
  · have k := List.all_eq_true.1 h7 j hj
    simp only [Bool.and_eq_true, decide_eq_true_eq] at k
    cases ho : ops[j]? with
    | none => rw [ho] at k; simp at k
    | some o =>
      rw [ho] at k
      simp only [Bool.and_eq_true, Option.isNone_iff_eq_none, Option.isSome_iff_exists] at k
      obtain ⟨t, ht⟩ := k.2.2
      exact ⟨k.1, o, t, rfl, k.2.1, ht⟩

/-- The makers' values laid into the frame. -/
def putAll (ops : Array Oper) (xs : Nat → Value) : List Nat → Act → Act
  | [], a => a
  | j :: r, a => putAll ops xs r (a.put ((ops[j]?).bind (·.dst)) (xs j))

/-- How far a walk through some order has come. -/
structure WInv (ops : Array Oper) (n : Nat) (wl : List Nat) (R : Nat → Value → World → Prop) (W : World) (a0 aF : Act) (listed : Array Bool) (a : Act) (w : World) : Prop where
  size : a.tmps.size = a0.tmps.size
  defers : a.defers = a0.defers
  below : Below W.heap.size W w
  old : ∀ t, (∀ j o, j < n → listed.getD j false = true → ops[j]? = some o → o.dst ≠ some t) → a.tmps[t]? = a0.tmps[t]?
  quiet : ∀ j o t, j < n → listed.getD j false = true → j ∉ wl → ops[j]? = some o → o.dst = some t → a.tmps[t]? = aF.tmps[t]?
  made : ∀ j o t, j ∈ wl → listed.getD j false = true → ops[j]? = some o → o.dst = some t → R j (a.tmps.getD t undef) w
  own : ∀ j o t b, j ∈ wl → listed.getD j false = true → ops[j]? = some o → o.dst = some t → ownOf (a.tmps.getD t undef) = some b → b < w.heap.size
  apart : ∀ j k o o' t t' b, j ∈ wl → k ∈ wl → j ≠ k → listed.getD j false = true → listed.getD k false = true → ops[j]? = some o → ops[k]? = some o' → o.dst = some t → o'.dst = some t' →
    ownOf (a.tmps.getD t undef) = some b → ownOf (a.tmps.getD t' undef) ≠ some b

section
variable {P : Program} {ops : Array Oper} {md : Region.Mode} {n m : Nat} {wl : List Nat} {R : Nat → Value → World → Prop} {W : World} {a0 aF : Act}

theorem getD_set_iff {listed : Array Bool} {i j : Nat} (hi : i < listed.size) : (listed.setIfInBounds i true).getD j false = true ↔ (j = i ∨ listed.getD j false = true) := by
  by_cases h : i = j
  · subst h
    simp [hi]
  · rw [getD_set_ne false h]
    exact ⟨Or.inr, fun h' => h'.resolve_left (fun e => h e.symm)⟩

theorem getD_put_ne {a : Act} {d : Option Tmp} {v : Value} {t : Nat} (h : d ≠ some t) : (a.put d v).tmps.getD t undef = a.tmps.getD t undef := by
  simp only [Array.getD_eq_getD_getElem?, put_ne h]

/-- One quiet operation more. -/
theorem WInv.step_quiet (ok : WildOK md ops n wl m) (hst : ∀ j v w w', R j v w → Below w.heap.size w w' → R j v w') {listed : Array Bool} {a : Act} {w w' : World} (inv : WInv ops n wl R W a0 aF listed a w)
    {i : Nat} {o : Oper} {v : Value} (hi : i < n) (hs : i < listed.size) (ho : ops[i]? = some o) (hw : i ∉ wl) (hun : listed.getD i false = false) (hsz : a0.tmps.size = m) (hv : ∀ t, o.dst = some t → t < a0.tmps.size → aF.tmps[t]? = some v) (hb : Below w.heap.size w w') :
    WInv ops n wl R W a0 aF (listed.setIfInBounds i true) (a.put o.dst v) w' := by
  have wild_ne : ∀ j oj t, j ∈ wl → ops[j]? = some oj → oj.dst = some t → o.dst ≠ some t := fun j oj t hj hoj ht h => by
    have hji : j ≠ i := fun e => hw (e ▸ hj)
    exact ok.dist j i oj o t (ok.wild j hj).1 hi hji hoj ho ht h
  have old_l : ∀ j, j ∈ wl → (listed.setIfInBounds i true).getD j false = true → listed.getD j false = true := fun j hj hl => by
    rcases (getD_set_iff hs).1 hl with e | h
    · exact absurd (e ▸ hj) hw
    · exact h
  refine ⟨by rw [put_size]; exact inv.size, by rw [put_defers]; exact inv.defers, inv.below.trans (hb.mono inv.below.size), fun t ht => ?_, fun j oj t hj hl hjw hoj ht => ?_, fun j oj t hj hl hoj ht => ?_, fun j oj t b hj hl hoj ht hbk => ?_, ?_⟩
  · rw [put_ne (ht i o hi ((getD_set_iff hs).2 (.inl rfl)) ho)]
    exact inv.old t fun j oj hj hl hoj => ht j oj hj ((getD_set_iff hs).2 (.inr hl)) hoj
  · by_cases e : j = i
    · subst e
      have : oj = o := Option.some.inj (hoj.symm.trans ho)
      subst this
      have hlt : t < a0.tmps.size := by rw [hsz]; exact ok.room j oj t hj hoj ht
      rw [ht, put_eq (by rw [inv.size]; exact hlt), hv t ht hlt]
    · rw [put_ne (fun h => ok.dist i j o oj t hi hj (fun e' => e e'.symm) ho hoj h ht)]
      exact inv.quiet j oj t hj (((getD_set_iff hs).1 hl).resolve_left e) hjw hoj ht
  · rw [getD_put_ne (wild_ne j oj t hj hoj ht)]
    exact hst _ _ _ _ (inv.made j oj t hj (old_l j hj hl) hoj ht) hb
  · rw [getD_put_ne (wild_ne j oj t hj hoj ht)] at hbk
    exact Nat.lt_of_lt_of_le (inv.own j oj t b hj (old_l j hj hl) hoj ht hbk) hb.size
  · intro j k oj ok' t t' b hj hk hne hlj hlk hoj hok ht ht' h1
    rw [getD_put_ne (wild_ne j oj t hj hoj ht)] at h1
    rw [getD_put_ne (wild_ne k ok' t' hk hok ht')]
    exact inv.apart j k oj ok' t t' b hj hk hne (old_l j hj hlj) (old_l k hk hlk) hoj hok ht ht' h1

/-- One maker more. -/
theorem WInv.step_wild (ok : WildOK md ops n wl m) (hst : ∀ j v w w', R j v w → Below w.heap.size w w' → R j v w') {listed : Array Bool} {a : Act} {w w' : World} (inv : WInv ops n wl R W a0 aF listed a w)
    {i : Nat} {o : Oper} {u : Value} (hs : i < listed.size) (ho : ops[i]? = some o) (hw : i ∈ wl) (hun : listed.getD i false = false) (hsz : a0.tmps.size = m) (hb : Below w.heap.size w w') (hR : R i u w')
    (hnew : ∀ b, ownOf u = some b → w.heap.size ≤ b ∧ b < w'.heap.size) : WInv ops n wl R W a0 aF (listed.setIfInBounds i true) (a.put o.dst u) w' := by
  obtain ⟨hi, o', t0, ho', _, ht0⟩ := ok.wild i hw
  have : o' = o := Option.some.inj (ho'.symm.trans ho)
  subst this
  have hlt : t0 < a.tmps.size := by rw [inv.size, hsz]; exact ok.room i o' t0 hi ho ht0
  have self : (a.put o'.dst u).tmps.getD t0 undef = u := by
    rw [ht0, Array.getD_eq_getD_getElem?, put_eq hlt]; rfl
  have other : ∀ j oj t, j < n → j ≠ i → ops[j]? = some oj → oj.dst = some t → o'.dst ≠ some t := fun j oj t hj hne hoj ht h => ok.dist j i oj o' t hj hi hne hoj ho ht h
  have own_i : ∀ oj t, ops[i]? = some oj → oj.dst = some t → t = t0 := fun oj t hoj ht => by
    have : oj = o' := Option.some.inj (hoj.symm.trans ho)
    subst this
    rw [ht0] at ht; exact (Option.some.inj ht).symm
  refine ⟨by rw [put_size]; exact inv.size, by rw [put_defers]; exact inv.defers, inv.below.trans (hb.mono inv.below.size), fun t ht => ?_, fun j oj t hj hl hjw hoj ht => ?_, fun j oj t hj hl hoj ht => ?_, fun j oj t b hj hl hoj ht hbk => ?_, ?_⟩
  · rw [put_ne (ht i o' hi ((getD_set_iff hs).2 (.inl rfl)) ho)]
    exact inv.old t fun j oj hj hl hoj => ht j oj hj ((getD_set_iff hs).2 (.inr hl)) hoj
  · have e : j ≠ i := fun e => hjw (e ▸ hw)
    rw [put_ne (other j oj t hj e hoj ht)]
    exact inv.quiet j oj t hj (((getD_set_iff hs).1 hl).resolve_left e) hjw hoj ht
  · by_cases e : j = i
    · subst e
      rw [own_i oj t hoj ht, self]; exact hR
    · rw [getD_put_ne (other j oj t (ok.wild j hj).1 e hoj ht)]
      exact hst _ _ _ _ (inv.made j oj t hj (((getD_set_iff hs).1 hl).resolve_left e) hoj ht) hb
  · by_cases e : j = i
    · subst e
      rw [own_i oj t hoj ht, self] at hbk; exact (hnew b hbk).2
    · rw [getD_put_ne (other j oj t (ok.wild j hj).1 e hoj ht)] at hbk
      exact Nat.lt_of_lt_of_le (inv.own j oj t b hj (((getD_set_iff hs).1 hl).resolve_left e) hoj ht hbk) hb.size
  · intro j k oj ok' t t' b hj hk hne hlj hlk hoj hok ht ht' h1
    by_cases ej : j = i
    · subst ej
      have ek : k ≠ j := fun e => hne e.symm
      rw [own_i oj t hoj ht, self] at h1
      rw [getD_put_ne (other k ok' t' (ok.wild k hk).1 ek hok ht')]
      intro h2
      have := inv.own k ok' t' b hk (((getD_set_iff hs).1 hlk).resolve_left ek) hok ht' h2
      have := (hnew b h1).1
      omega
    · rw [getD_put_ne (other j oj t (ok.wild j hj).1 ej hoj ht)] at h1
      have hlj' := ((getD_set_iff hs).1 hlj).resolve_left ej
      by_cases ek : k = i
      · subst ek
        rw [own_i ok' t' hok ht', self]
        intro h2
        have := inv.own j oj t b hj hlj' hoj ht h1
        have := (hnew b h2).1
        omega
      · rw [getD_put_ne (other k ok' t' (ok.wild k hk).1 ek hok ht')]
        exact inv.apart j k oj ok' t t' b hj hk hne hlj' (((getD_set_iff hs).1 hlk).resolve_left ek) hoj hok ht ht' h1

theorem putAll_size (xs : Nat → Value) : ∀ (r : List Nat) (a : Act), (putAll ops xs r a).tmps.size = a.tmps.size
  | [], _ => rfl
  | j :: r, a => by rw [putAll, putAll_size xs r, put_size]
theorem putAll_defers (xs : Nat → Value) : ∀ (r : List Nat) (a : Act), (putAll ops xs r a).defers = a.defers
  | [], _ => rfl
  | j :: r, a => by rw [putAll, putAll_defers xs r, put_defers]
theorem putAll_ne (xs : Nat → Value) {t : Nat} : ∀ (r : List Nat) (a : Act), (∀ j ∈ r, ∀ o, ops[j]? = some o → o.dst ≠ some t) → (putAll ops xs r a).tmps[t]? = a.tmps[t]?
  | [], _, _ => rfl
  | j :: r, a, h => by
    rw [putAll, putAll_ne xs r _ (fun k hk => h k (List.mem_cons_of_mem _ hk))]
    cases ho : ops[j]? with
    | none => rfl
    | some o => exact put_ne (h j (List.mem_cons_self ..) o ho)
theorem putAll_eq (xs : Nat → Value) {t j : Nat} {o : Oper} (ho : ops[j]? = some o) (ht : o.dst = some t) : ∀ (r : List Nat) (a : Act), j ∈ r → t < a.tmps.size →
    (∀ k ∈ r, k ≠ j → ∀ o', ops[k]? = some o' → o'.dst ≠ some t) → (putAll ops xs r a).tmps[t]? = some (xs j)
  | [], _, h, _, _ => by cases h
  | k :: r, a, h, hlt, hd => by
    rw [putAll]
    by_cases hr : j ∈ r
    · exact putAll_eq xs ho ht r _ hr (by rw [put_size]; exact hlt) (fun k' hk' => hd k' (List.mem_cons_of_mem _ hk'))
    · have e : k = j := by
        rcases List.mem_cons.1 h with h | h
        · exact h.symm
        · exact absurd h hr
      subst e
      rw [putAll_ne xs r _ (fun k' hk' o' ho' => hd k' (List.mem_cons_of_mem _ hk') (fun e => hr (e ▸ hk')) o' ho'), ho]
      simp only [Option.bind_some, ht]
      exact put_eq hlt

/-- At the end of the walk the frame is the quiet walk's, the makers' values laid in. -/
theorem WInv.frame (ok : WildOK md ops n wl m) {listed : Array Bool} {a : Act} {w : World} (inv : WInv ops n wl R W a0 aF listed a w) (hall : ∀ j, j < n → listed.getD j false = true) (hsz : a0.tmps.size = m)
    (f1 : aF.tmps.size = a0.tmps.size) (f2 : aF.defers = a0.defers) (f3 : ∀ t, (∀ j o, j < n → ops[j]? = some o → o.dst ≠ some t) → aF.tmps[t]? = a0.tmps[t]?) :
    a = putAll ops (fun j => a.tmps.getD (((ops[j]?).bind (·.dst)).getD 0) undef) wl aF := by
  have hd : a.defers = (putAll ops (fun j => a.tmps.getD (((ops[j]?).bind (·.dst)).getD 0) undef) wl aF).defers := by rw [putAll_defers, f2, inv.defers]
  have ht : a.tmps = (putAll ops (fun j => a.tmps.getD (((ops[j]?).bind (·.dst)).getD 0) undef) wl aF).tmps := by
    apply Array.ext_getElem?
    intro t
    by_cases hex : ∃ j o, j < n ∧ ops[j]? = some o ∧ o.dst = some t
    · obtain ⟨j, o, hj, ho, hdt⟩ := hex
      have hlt : t < a0.tmps.size := by rw [hsz]; exact ok.room j o t hj ho hdt
      by_cases hw : j ∈ wl
      · rw [putAll_eq _ ho hdt wl aF hw (by rw [f1]; exact hlt) (fun k hk hne o' ho' h' => ok.dist k j o' o t (ok.wild k hk).1 hj hne ho' ho h' hdt)]
        simp only [ho, Option.bind_some, hdt, Option.getD_some]
        rw [Array.getD_eq_getD_getElem?, Array.getElem?_eq_getElem (by rw [inv.size]; exact hlt)]
        rfl
      · rw [putAll_ne _ wl aF (fun k hk o' ho' h' => ok.dist k j o' o t (ok.wild k hk).1 hj (fun e => hw (e ▸ hk)) ho' ho h' hdt)]
        exact inv.quiet j o t hj (hall j hj) hw ho hdt
    · have hno : ∀ j o, j < n → ops[j]? = some o → o.dst ≠ some t := fun j o hj ho h => hex ⟨j, o, hj, ho, h⟩
      rw [putAll_ne _ wl aF (fun k hk o' ho' => hno k o' (ok.wild k hk).1 ho'), f3 t hno]
      exact inv.old t fun j o hj _ ho => hno j o hj ho
  generalize putAll ops (fun j => a.tmps.getD (((ops[j]?).bind (·.dst)).getD 0) undef) wl aF = b at hd ht
  obtain ⟨at1, ad1⟩ := a
  obtain ⟨bt1, bd1⟩ := b
  simp only at hd ht
  rw [hd, ht]

theorem exists_least : ∀ (l : List Nat), l ≠ [] → ∃ i ∈ l, ∀ j ∈ l, i ≤ j
  | [], h => absurd rfl h
  | [x], _ => ⟨x, by simp, by simp⟩
  | x :: y :: r, _ => by
    obtain ⟨i, hi, hm⟩ := exists_least (y :: r) (by simp)
    by_cases h : x ≤ i
    · exact ⟨x, by simp, fun j hj => by rcases List.mem_cons.1 hj with rfl | hj; exact Nat.le_refl _; exact Nat.le_trans h (hm j hj)⟩
    · exact ⟨i, List.mem_cons_of_mem _ hi, fun j hj => by rcases List.mem_cons.1 hj with rfl | hj; omega; exact hm j hj⟩

theorem getD_true_of {listed : Array Bool} {i : Nat} (hi : i < listed.size) : listed.getD i true = listed.getD i false := by
  simp [hi]

theorem wild_any {Q : Exit → Act → World → Prop} (ok : WildOK md ops n wl m) (hst : ∀ j v w w', R j v w → Below w.heap.size w w' → R j v w') (hsz : a0.tmps.size = m)
    (H1 : ∀ X, Below W.heap.size W X → wpQuiet P ops (fun w' => ∃ u, w' = ext X u) (fun a' => a' = aF) (muteAt wl 0 (ops.toList.take n)) a0)
    (H2 : ∀ j ∈ wl, ∀ o, ops[j]? = some o → ∀ w, Below W.heap.size W w → wildUpon P w (R j) ((execOp aF.eval o).run P w))
    (H3 : ∀ (xs : Nat → Value) (w : World), Below W.heap.size W w → (∀ j ∈ wl, R j (xs j) w) → (∀ j ∈ wl, ∀ k ∈ wl, j ≠ k → ∀ b, ownOf (xs j) = some b → ownOf (xs k) ≠ some b) → (∀ j ∈ wl, ∀ b, ownOf (xs j) = some b → b < w.heap.size) →
      wpList P ops Q (ops.toList.drop n) (putAll ops xs wl aF) w) :
    ∀ (f : Nat) (rem : List Nat) (listed : Array Bool) (a : Act) (w : World), rem.length = f → rem.Nodup → (∀ i, i ∈ rem ↔ i < n ∧ listed.getD i true = false) → HeadInv md ops n listed → WInv ops n wl R W a0 aF listed a w →
      wpAny P md ops Q (f + (ops.size - n)) listed a w := by
  have lget : ∀ k o, k < n → ops[k]? = some o → (muteAt wl 0 (ops.toList.take n))[k]? = some (if wl.contains k then mute o else o) := fun k o hk ho => by
    rw [muteAt_at, List.getElem?_take_of_lt hk]
    have : ops.toList[k]? = some o := by simpa using ho
    rw [this]; simp
  have lgetr : ∀ k o', (muteAt wl 0 (ops.toList.take n))[k]? = some o' → k < n ∧ ∃ o, ops[k]? = some o ∧ o'.dst = o.dst := fun k o' h => by
    rw [muteAt_at] at h
    cases hk : (ops.toList.take n)[k]? with
    | none => rw [hk] at h; simp at h
    | some o =>
      rw [hk] at h
      have hkn : k < n := by
        have := (List.getElem?_eq_some_iff.1 hk).1
        have := List.length_take_le n ops.toList
        omega
      rw [List.getElem?_take_of_lt hkn] at hk
      refine ⟨hkn, o, by simpa using hk, ?_⟩
      simp only [Option.map_some, Option.some.injEq] at h
      rw [← h]
      split <;> rfl
  have pw : (muteAt wl 0 (ops.toList.take n)).Pairwise (fun o o' => ∀ t, o.dst = some t → o'.dst ≠ some t) := by
    rw [List.pairwise_iff_getElem]
    intro i j hi hj hij t h1 h2
    obtain ⟨hin, o, ho, e1⟩ := lgetr i _ (List.getElem?_eq_getElem hi)
    obtain ⟨hjn, o', ho', e2⟩ := lgetr j _ (List.getElem?_eq_getElem hj)
    rw [e1] at h1
    rw [e2] at h2
    exact ok.dist i j o o' t hin hjn (by omega) ho ho' h1 h2
  have base := lex_spec _ a0 aF pw (H1 W (Below.refl _ _))
  have f3 : ∀ t, (∀ j o, j < n → ops[j]? = some o → o.dst ≠ some t) → aF.tmps[t]? = a0.tmps[t]? := fun t ht => base.2.2.1 t fun x hx => by
    obtain ⟨k, hk, rfl⟩ := List.mem_iff_getElem.1 hx
    obtain ⟨hkn, o, ho, e⟩ := lgetr k _ (List.getElem?_eq_getElem hk)
    rw [e]; exact ht k o hkn ho
  intro f
  induction f with
  | zero =>
    intro rem listed a w hlen hnd hmem hinv inv
    have hnil : rem = [] := List.eq_nil_of_length_eq_zero hlen
    subst hnil
    have hall : ∀ j, j < n → listed.getD j false = true := fun j hj => by
      have : ¬ (j < n ∧ listed.getD j true = false) := fun h => by have := (hmem j).2 h; cases this
      have h1 : listed.getD j true ≠ false := fun h => this ⟨hj, h⟩
      rw [getD_true_of (by rw [hinv.size]; have := ok.lt; omega)] at h1
      simpa using h1
    have hl : listed = prefArr n ops.size := by
      apply Array.ext (by simp [prefArr, hinv.size])
      intro i h1 h2
      have hi : i < ops.size := by rw [← hinv.size]; exact h1
      simp only [prefArr, List.getElem_toArray, List.getElem_map, List.getElem_range]
      by_cases hin : i < n
      · have := hall i hin
        rw [Array.getD_eq_getD_getElem?, Array.getElem?_eq_getElem h1] at this
        simpa [hin] using this
      · have := hinv.tail i (by omega) hi
        rw [Array.getD_eq_getD_getElem?, Array.getElem?_eq_getElem h1] at this
        simpa [hin] using this
    rw [Nat.zero_add]
    have hfr := inv.frame ok hall hsz base.1 base.2.1 f3
    have dgl : ∀ (j : Nat) (o : Oper) (t : Tmp), ops[j]? = some o → o.dst = some t → (((ops[j]?).bind (·.dst)).getD 0) = t := fun j o t ho ht => by simp [ho, ht]
    have h3 := H3 (fun j => a.tmps.getD (((ops[j]?).bind (·.dst)).getD 0) undef) w inv.below
      (fun j hj => by
        obtain ⟨hjn, o, t, ho, _, ht⟩ := ok.wild j hj
        rw [dgl j o t ho ht]
        exact inv.made j o t hj (hall j hjn) ho ht)
      (fun j hj k hk hne b h1 => by
        obtain ⟨hjn, o, t, ho, _, ht⟩ := ok.wild j hj
        obtain ⟨hkn, o', t', ho', _, ht'⟩ := ok.wild k hk
        rw [dgl j o t ho ht] at h1
        rw [dgl k o' t' ho' ht']
        exact inv.apart j k o o' t t' b hj hk hne (hall j hjn) (hall k hkn) ho ho' ht ht' h1)
      (fun j hj b h1 => by
        obtain ⟨hjn, o, t, ho, _, ht⟩ := ok.wild j hj
        rw [dgl j o t ho ht] at h1
        exact inv.own j o t b hj (hall j hjn) ho ht h1)
    rw [← hfr] at h3
    have hdl : (ops.toList.drop n).length = ops.size - n := by simp
    have := wpAny_of_seq (md := md) (Q' := Q) (ops.toList.drop n) n listed a w (fun j => by simp [List.getElem?_drop]) (by rw [hdl, hl]; exact ok.seq) h3
    rwa [hdl] at this
  | succ f ih =>
    intro rem listed a w hlen hnd hmem hinv inv
    have hne : rem ≠ [] := fun h => by rw [h] at hlen; simp at hlen
    obtain ⟨i0, hi0, hmin⟩ := exists_least rem hne
    obtain ⟨hi0n, hi0u⟩ := (hmem i0).1 hi0
    have hready0 : i0 ∈ Region.ready md ops listed := by
      have hlt : i0 < ops.size := by have := ok.lt; omega
      refine mem_ready.2 ⟨hi0u, ops[i0], Array.getElem?_eq_getElem hlt, fun e he hb => ?_⟩
      have hlt' := ok.back i0 _ hi0n (Array.getElem?_eq_getElem hlt) e he hb
      have h1 : ¬ (e.on < n ∧ listed.getD e.on true = false) := fun h => by
        have := hmin _ ((hmem e.on).2 h)
        omega
      have h2 : listed.getD e.on true ≠ false := fun h => h1 ⟨by omega, h⟩
      rw [getD_true_of (by rw [hinv.size]; omega)] at h2
      simpa using h2
    rw [show f + 1 + (ops.size - n) = (f + (ops.size - n)) + 1 by omega]
    refine ⟨fun h => (by rw [h] at hready0; cases hready0), fun i hi => ?_⟩
    have hin : i < n := by
      rcases Nat.lt_or_ge i n with h | h
      · exact h
      · exact absurd hi (tail_waits ok.sink ok.chain ok.lt hinv _ i0 rfl hi0n hi0u i h)
    obtain ⟨hiu, o, ho, hafter⟩ := mem_ready.1 hi
    have his : i < listed.size := by rw [hinv.size]; have := ok.lt; omega
    have hiu' : listed.getD i false = false := getD_both hiu
    have hirem : i ∈ rem := (hmem i).2 ⟨hin, hiu⟩
    have next : ∀ a' w', WInv ops n wl R W a0 aF (listed.setIfInBounds i true) a' w' → wpAny P md ops Q (f + (ops.size - n)) (listed.setIfInBounds i true) a' w' := fun a' w' inv' => by
      refine ih (rem.erase i) _ a' w' (by rw [List.length_erase_of_mem hirem]; omega) (hnd.erase i) (fun k => ?_) (hinv.set hi hin) inv'
      rw [hnd.mem_erase_iff, hmem k]
      have hks : k < n → k < listed.size := fun h => by rw [hinv.size]; have := ok.lt; omega
      by_cases hki : k = i
      · subst hki
        simp [his]
      · rw [getD_set_ne true (fun e => hki e.symm)]
        exact ⟨fun h => h.2, fun h => ⟨hki, h⟩⟩
    have waits : ∀ j, Region.waitsFor md ops i j = true → listed.getD j false = true := fun j hw => by
      obtain ⟨oi, hoi, e, he, hb, hon⟩ := Region.waitsFor_spec hw
      have : oi = o := Option.some.inj (hoi.symm.trans ho)
      subst this
      rw [← hon]; exact hafter e he hb
    have hsel := Region.noSelect_spec ok.sel
    unfold wpOp
    simp only [ho]
    by_cases hw : i ∈ wl
    · obtain ⟨_, o', t, ho', hg, ht⟩ := ok.wild i hw
      have : o' = o := Option.some.inj (ho'.symm.trans ho)
      subst this
      have agree : ∀ t ∈ o'.looksAt ops, a.tmps[t]? = aF.tmps[t]? := fun t htl => by
        by_cases hex : ∃ j oj, j < n ∧ ops[j]? = some oj ∧ oj.dst = some t
        · obtain ⟨j, oj, hj, hoj, hdj⟩ := hex
          obtain ⟨_, hjw, hwt⟩ := ok.look i j o' oj t hin hj ho hoj htl hdj
          exact inv.quiet j oj t hj (waits j hwt) hjw hoj hdj
        · have hno : ∀ j oj, j < n → ops[j]? = some oj → oj.dst ≠ some t := fun j oj hj hoj h => hex ⟨j, oj, hj, hoj, h⟩
          rw [f3 t hno]
          exact inv.old t fun j oj hj _ hoj => hno j oj hj hoj
      have hwant : Region.wanted o' (yielded ops a.tmps) = true := by simp [Region.wanted, hg]
      rw [if_pos hwant]
      left
      have h2 := H2 i hw o' ho w inv.below
      rw [← exec_agree (hsel i o' · · ho) agree] at h2
      unfold Oper.wp
      generalize (execOp a.eval o').run P w = r at h2
      cases r with
      | halt x w' => exact h2.elim
      | ok nx w' =>
        cases nx <;> simp only [wildUpon] at h2 <;> simp only [Oper.upon]
        case value u =>
          obtain ⟨hb, hR, hnew⟩ := h2
          exact next _ _ (inv.step_wild ok hst his ho hw hiu' hsz hb hR hnew)
        case enter fn args =>
          obtain ⟨rfl, hc⟩ := h2
          exact hc.mono fun e w'' ⟨u, he, hb, hR, hnew⟩ => by
            subst he
            exact next _ _ (inv.step_wild ok hst his ho hw hiu' hsz hb hR hnew)
    · obtain ⟨s1, s2, s3, s4⟩ := lex_spec _ a0 aF pw (H1 w inv.below)
      obtain ⟨aL, v, y1, y2, y3, y4⟩ := s4 i o (by rw [lget i o hin ho]; simp [hw])
      have agree : ∀ t ∈ o.looksAt ops, a.tmps[t]? = aL.tmps[t]? := fun t htl => by
        by_cases hex : ∃ j oj, j < n ∧ ops[j]? = some oj ∧ oj.dst = some t
        · obtain ⟨j, oj, hj, hoj, hdj⟩ := hex
          obtain ⟨hji, hjw, hwt⟩ := ok.look i j o oj t hin hj ho hoj htl hdj
          rw [inv.quiet j oj t hj (waits j hwt) hjw hoj hdj]
          refine (y4 t fun k' o' hk' ho' h' => ?_).symm
          obtain ⟨hkn, ok', hok, e⟩ := lgetr k' o' ho'
          rw [e] at h'
          exact ok.dist j k' oj ok' t hj hkn (by omega) hoj hok hdj h'
        · have hno : ∀ j oj, j < n → ops[j]? = some oj → oj.dst ≠ some t := fun j oj hj hoj h => hex ⟨j, oj, hj, hoj, h⟩
          rw [inv.old t fun j oj hj _ hoj => hno j oj hj hoj]
          refine (y3 t fun k' o' hk' ho' h' => ?_).symm
          obtain ⟨hkn, ok', hok, e⟩ := lgetr k' o' ho'
          rw [e] at h'
          exact hno k' ok' hkn hok h'
      rw [wanted_agree agree]
      rcases y1 with ⟨hwant, hq⟩ | ⟨hwant, rfl⟩
      · rw [if_pos hwant]
        left
        have hself : ∃ u, w = ext w u := by
          obtain ⟨u, hu⟩ := ext_of (W := w) (w' := w) (Below.refl _ _)
          exact ⟨u, hu.symm⟩
        have hq' := hq w hself
        unfold Oper.quietAt at hq'
        rw [← exec_agree (hsel i o · · ho) agree] at hq'
        unfold Oper.wp
        generalize (execOp a.eval o).run P w = r at hq'
        cases r with
        | halt x w' => exact hq'.elim
        | ok nx w' =>
          cases nx <;> simp only [Oper.quietUpon] at hq' <;> simp only [Oper.upon]
          case value u =>
            obtain ⟨e1, e2⟩ := hq'
            rw [e1, e2]
            exact next _ _ (inv.step_quiet ok hst hin his ho hw hiu' hsz y2 (Below.refl _ _))
          case skip =>
            obtain ⟨e1, e2⟩ := hq'
            rw [e1, ← e2]
            exact next _ _ (inv.step_quiet ok hst hin his ho hw hiu' hsz y2 (Below.refl _ _))
          case enter fn args =>
            obtain ⟨e1, hc⟩ := hq'
            rw [e1]
            exact hc.mono fun e w'' ⟨he, u, hu⟩ => by
              subst he
              rw [hu]
              exact next _ _ (inv.step_quiet ok hst hin his ho hw hiu' hsz y2 (below_ext w u))
      · rw [if_neg (by simp [hwant])]
        exact next _ _ (inv.step_quiet ok hst hin his ho hw hiu' hsz y2 (Below.refl _ _))

/-- **The region's law.** 'n': how many operations stand before the forced tail; 'wl': the makers among them; 'R j': what maker j's value is good for. -/
theorem wp_region_wild {id : Nat} {Q : Exit → Act → World → Prop} {l : List Oper} {aF : Act} {wX : World} (W : World) (n m : Nat) (wl : List Nat) (R : Nat → Value → World → Prop) (hX : Below W.heap.size W wX) (hm : P.follows .mixedOrders = true) (hB : wildB .any l.toArray n wl m = true)
    (hsz : a0.tmps.size = m) (hst : ∀ j v w w', R j v w → Below w.heap.size w w' → R j v w')
    (H1 : ∀ X, Below W.heap.size W X → wpQuiet P l.toArray (fun w' => ∃ u, w' = ext X u) (fun a' => a' = aF) (muteAt wl 0 (l.take n)) a0)
    (H2 : ∀ j ∈ wl, ∀ o, l[j]? = some o → ∀ w, Below W.heap.size W w → wildUpon P w (R j) ((execOp aF.eval o).run P w))
    (H3 : ∀ (xs : Nat → Value) (w : World), Below W.heap.size W w → (∀ j ∈ wl, R j (xs j) w) → (∀ j ∈ wl, ∀ k ∈ wl, j ≠ k → ∀ b, ownOf (xs j) = some b → ownOf (xs k) ≠ some b) → (∀ j ∈ wl, ∀ b, ownOf (xs j) = some b → b < w.heap.size) →
      wpList P l.toArray Q (l.drop n) (putAll l.toArray xs wl aF) w) :
    (Code.region id l.toArray true).wp P Q a0 wX := by
  have ok := WildOK.of hB
  refine wp_region_any hm ?_
  have := wild_any (Q := Q) (aF := aF) ok hst hsz (by simpa using H1) (fun j hj o ho => H2 j hj o (by simpa using ho)) (by simpa using H3) n (List.range n) (Array.replicate l.toArray.size false) a0 wX.drew (by simp) List.nodup_range
    (fun i => by
      rw [List.mem_range]
      have := ok.lt
      refine ⟨fun h => ⟨h, ?_⟩, fun h => h.1⟩
      rw [Array.getD_eq_getD_getElem?, Array.getElem?_replicate, if_pos (by omega)]; rfl)
    ⟨by simp, fun j oj _ hl => (by rw [getD_replicate_false] at hl; cases hl), fun t _ ht => getD_in (by simpa using ht) (getD_replicate_false _ _)⟩
    ⟨rfl, rfl, hX.drew, fun _ _ => rfl, fun j o t _ hl => (by rw [getD_replicate_false] at hl; cases hl), fun j o t _ hl => (by rw [getD_replicate_false] at hl; cases hl), fun j o t b _ hl => (by rw [getD_replicate_false] at hl; cases hl),
      fun j k o o' t t' b _ _ _ hl => (by rw [getD_replicate_false] at hl; cases hl)⟩
  rw [show n + (l.toArray.size - n) = l.toArray.size by have := ok.lt; omega] at this
  exact this
end

/-- The same, the quiet walk's last frame to be found on the way. -/
theorem region_wild {P : Program} {a0 : Act} {id : Nat} {Q : Exit → Act → World → Prop} {l : List Oper} {wX : World} (W : World) (n m : Nat) (wl : List Nat) (R : Nat → Value → World → Prop) (hX : Below W.heap.size W wX) (hm : P.follows .mixedOrders = true) (hB : wildB .any l.toArray n wl m = true)
    (hsz : a0.tmps.size = m) (hst : ∀ j v w w', R j v w → Below w.heap.size w w' → R j v w')
    (H : ∃ aF : Act, (∀ X, Below W.heap.size W X → wpQuiet P l.toArray (fun w' => ∃ u, w' = ext X u) (fun a' => a' = aF) (muteAt wl 0 (l.take n)) a0) ∧
      (∀ w, Below W.heap.size W w → ∀ j ∈ wl, ∀ o, l[j]? = some o → wildUpon P w (R j) ((execOp aF.eval o).run P w)) ∧
      (∀ (xs : Nat → Value) (w : World), Below W.heap.size W w → (∀ j ∈ wl, R j (xs j) w) → (∀ j ∈ wl, ∀ k ∈ wl, j ≠ k → ∀ b, ownOf (xs j) = some b → ownOf (xs k) ≠ some b) → (∀ j ∈ wl, ∀ b, ownOf (xs j) = some b → b < w.heap.size) →
        wpList P l.toArray Q (l.drop n) (putAll l.toArray xs wl aF) w)) :
    (Code.region id l.toArray true).wp P Q a0 wX := by
  obtain ⟨aF, H1, H2, H3⟩ := H
  exact wp_region_wild W n m wl R hX hm hB hsz hst H1 (fun j hj o ho w hw => H2 w hw j hj o ho) H3

/-- A new variable. -/
def NewVar (B : Nat) (o : Obj) (v : Value) (w : World) : Prop := ∃ b, v = .pointer (some ⟨b, 0, none⟩) ∧ B ≤ b ∧ w.heap[b]? = some o

theorem NewVar.keep {B : Nat} {o : Obj} {v : Value} {w w' : World} (h : NewVar B o v w) (hb : Below w.heap.size w w') : NewVar B o v w' := by
  obtain ⟨b, e, h1, h2⟩ := h
  refine ⟨b, e, h1, ?_⟩
  rw [hb.block b ?_]
  · exact h2
  · rcases Nat.lt_or_ge b w.heap.size with h | h
    · exact h
    · rw [Array.getElem?_eq_none h] at h2; cases h2

theorem wild_alloc {P : Program} {B : Nat} {w : World} {o : Obj} {r : Result Next} (hb : B ≤ w.heap.size) (h : r = .ok (.value (.pointer (some ⟨w.heap.size, 0, none⟩))) (w.alloc o)) : wildUpon P w (NewVar B o) r := by
  subst h
  refine ⟨(Below.refl _ _).alloc (Nat.le_refl _) _, ⟨_, rfl, hb, heap_alloc_new w o⟩, fun b hb' => ?_⟩
  have : w.heap.size = b := by simpa [ownOf] using hb'
  subst this
  exact ⟨Nat.le_refl _, by simp⟩

/-- A block that is known, as the walk's rules. -/
theorem block_rules {w : World} {b t : Nat} {C : Array Value} (h : w.heap[b]? = some (.cells C t (0, 0))) : (∀ i, w.cell? ⟨b, i, none⟩ = C[i]?) ∧ (∀ i, w.frozen? ⟨b, i, none⟩ = false) ∧ b < w.heap.size := by
  refine ⟨fun i => ?_, fun i => ?_, ?_⟩
  · simp [World.cell?, h]
  · simp [World.frozen?, h]
  · rcases Nat.lt_or_ge b w.heap.size with h' | h'
    · exact h'
    · rw [Array.getElem?_eq_none h'] at h; cases h

/-- Block b is just these cells, none of them frozen. -/
def Bk (w : World) (b : Nat) (C : Array Value) (t : TypeId) : Prop := w.heap[b]? = some (.cells C t (0, 0))

section
variable {w w' : World} {b t : Nat} {C : Array Value}
theorem Bk.lt (h : Bk w b C t) : b < w.heap.size := (block_rules h).2.2
theorem Bk.cell (h : Bk w b C t) : ∀ i, w.cell? ⟨b, i, none⟩ = C[i]? := (block_rules h).1
theorem Bk.free (h : Bk w b C t) : ∀ i, w.frozen? ⟨b, i, none⟩ = false := (block_rules h).2.1
theorem Bk.below (h : Bk w b C t) (hb : Below w.heap.size w w') : Bk w' b C t := (hb.block b h.lt).trans h
theorem Bk.below' {B : Nat} (h : Bk w b C t) (hb : Below B w w') (hB : b < B) : Bk w' b C t := (hb.block b hB).trans h
theorem Bk.set_ (h : Bk w b C t) (i : Nat) (u : Value) : Bk (w.setCell ⟨b, i, none⟩ u) b (C.setIfInBounds i u) t := by
  unfold Bk at h ⊢
  simp [World.setCell, Array.getElem?_modify, h]
theorem Bk.far (h : Bk w b C t) {p : Addr} (hp : b ≠ p.block) (u : Value) : Bk (w.setCell p u) b C t := (Below.heap_setCell w p u b hp).trans h
theorem Bk.alloc (h : Bk w b C t) (o : Obj) : Bk (w.alloc o) b C t := (Below.heap_alloc w o b h.lt).trans h
theorem Bk.drew (h : Bk w b C t) : Bk w.drew b C t := h
theorem Bk.new (w : World) (C : Array Value) (t : TypeId) : Bk (w.alloc (.cells C t)) w.heap.size C t := heap_alloc_new w _
theorem Bk.ext (h : Bk w b C t) (u : World) : Bk (ext w u) b C t := h.below (below_ext w u)
end

/-- Go on from a world of which only this is known. -/
theorem forget {P : Program} {c : Code} {Q : Exit → Act → World → Prop} {a : Act} {W : World} (F : World → Prop) (hF : F W) (h : ∀ w, F w → c.wp P Q a w) : c.wp P Q a W := h W hF
end Go.Proofs.YtojkpoikamcgkaaDoor
