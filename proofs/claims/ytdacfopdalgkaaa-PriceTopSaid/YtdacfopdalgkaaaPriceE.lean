/- Layer 17 (price): a bill that is being made. -/
import Derived.Test.YtdacfopdalgkaaaPriceD
import Derived.Test.YtdacfopdalgkaaaOnly
namespace Go.Proofs.Ytdacfopdalgkaaa
open Go.RowKit
set_option linter.unusedVariables false
set_option linter.unusedSimpArgs false

structure BillS where
  total : Int
  err : Int
  ls : List Ln

def lineCells (ls : List Ln) : List Value := (ls.map fun l => [Value.int .i64 l.1, Value.int .i64 l.2]).flatten
theorem lineCells_snoc (ls : List Ln) (l : Ln) : lineCells (ls ++ [l]) = lineCells ls ++ [.int .i64 l.1, .int .i64 l.2] := by simp [lineCells]

/-- Block b is the bill s; its lines lie in a row of the call's own, in block o. -/
def BillIs (w : World) (b base : Nat) (s : BillS) (o : Option Nat) : Prop :=
  ∃ v, Bk w b #[v, .int .i64 s.total, .int .i64 s.err] 50 ∧ w.ownsRow base 38 2 v s.ls.length (lineCells s.ls) ∧ v.ownBlock = o

def lineS (s : BillS) (kind n e : Int) : BillS :=
  if e = 0 ∧ sumE [s.total, n] = 0 then { total := sumV [s.total, n], err := s.err, ls := s.ls ++ [(kind, n)] } else { s with err := 2 }

theorem infoLine : (Try.prog.info? 38).map (fun i => (i.size, i.bytes, i.zero.map fun z => z.cells.size)) = some (2, 16, some 2) := by kernel_rfl

def Lined (w : World) (b base : Nat) (s : BillS) (o : Option Nat) (e : Ending) (w' : World) : Prop :=
  e = .returned (.tuple #[]) ∧ Only (fun g => g = b ∨ o = some g) w w' ∧ ∃ o', BillIs w' b base s o' ∧ (o' = o ∨ ∃ g, o' = some g ∧ w.heap.size ≤ g)

set_option maxHeartbeats 2000000 in
theorem line_any (w : World) (b base : Nat) (s : BillS) (o : Option Nat) (kind n e : Int) (h : BillIs w b base s o) (hb : b < base) (hB : base ≤ w.heap.size) (hf : fits s.total ∧ fits n) (hl : s.ls.length ≤ 100) :
    Calls Try.prog 24 #[.pointer (some ⟨b, 0, none⟩), .int .i64 kind, .int .i64 n, .int .i64 e] w (Lined w b base (lineS s kind n e) o) := by
  obtain ⟨v, bk, own, ho⟩ := h
  have cB := bk.cell
  have fB := bk.free
  have lB := bk.lt
  obtain ⟨sv, hsv⟩ : ∃ x, sumV [s.total, n] = x := ⟨_, rfl⟩
  obtain ⟨se, hse⟩ : ∃ x, sumE [s.total, n] = x := ⟨_, rfl⟩
  have Hsv := Lib.hid hsv
  have Hse := Lib.hid hse
  clear hsv hse
  have hz : ∀ z ∈ [s.total, n], fits z := by
    intro z hz
    simp only [List.mem_cons, List.not_mem_nil, or_false] at hz
    rcases hz with rfl | rfl
    · exact hf.1
    · exact hf.2
  have hE := elems_new w w.heap.size 3 [s.total, n] rfl hz
  have HE := Lib.hid hE
  clear hE hz
  obtain ⟨il, zl, i1, i2, i3, i4, i5⟩ := info_of infoLine
  go_enter Try.func24, Try.ntmps24
  go_wp2_with fail
  refine (Sum_two sv se _ (w.heap.size + 1) 2 _ 2 [s.total, n] HE.out rfl (by omega) Hsv Hse).mono ?_
  rintro e1 w1 ⟨rfl, rfl⟩
  by_cases he : e = 0
  · subst he
    by_cases hs : se = 0
    · subst hs
      go_wp2_with (at_builtin; go_loud (refine list_append2 rfl _ _ _ rfl base _ il zl 2 16 Try.underlying26 i1 i2 i3 i4 i5 (by decide) s.ls.length (lineCells s.ls) rfl (own_alloc (own_alloc own _) _) (some ⟨w.heap.size + 1, 0, none⟩) 1 1 [.int .i64 kind, .int .i64 n] rfl rfl (lies_bk (bk_next _ _ _ _) 1) (by simp [Value.oneCell']) (by unfold maxLen; omega) (by omega) (by simp; omega) (s.ls.length + 1) (lineCells s.ls ++ [.int .i64 kind, .int .i64 n]) rfl rfl ?_))
      intro A' c' w2 own2 hb2 hg2 hnew
      have hbo : some b ≠ o := fun e => by have := own_lt own (ho.trans e.symm); omega
      have hgo : ∀ g, o = some g → base ≤ g ∧ g < w.heap.size := fun g e => own_lt own (ho.trans e)
      have bk2 := grown_bk hg2 ((bk.alloc _).alloc _) hbo
      have hon : Only (fun g => g = b ∨ o = some g) w w2 := (((Only.refl _ w).alloc _).alloc _).grown hg2 (fun g e => .inl (.inr e))
      have cB' := bk2.cell
      have fB' := bk2.free
      have lB' := bk2.lt
      have hE1 : lineS s kind n 0 = { total := sv, err := s.err, ls := s.ls ++ [(kind, n)] } := by unfold lineS; rw [Hse.out, Hsv.out]; simp
      have HE1 := Lib.hid hE1
      have Hnew := Lib.hid hnew
      clear hE1 hb2 hg2 hnew
      go_wp2_with fail
      go_end0
      refine ⟨rfl, (hon.set_ (.inl (.inl rfl)) _).set_ (.inl (.inl rfl)) _, ?_⟩
      rw [HE1.out]
      refine ⟨A'.map (·.block), ⟨.slice A' (s.ls.length + 1) c', ?_, ?_, by cases A' <;> rfl⟩, ?_⟩
      · exact (bk2.set_ 0 _).set_ 1 _
      · have h3 : ∀ g, (Value.slice A' (s.ls.length + 1) c').ownBlock = some g → ¬ g = b := fun g hg e => by have := own_lt own2 hg; omega
        have h2 := own_only own2 (((Only.refl (fun g => g = b) w2).set_ (p := ⟨b, 0, none⟩) (.inl rfl) (.slice A' (s.ls.length + 1) c')).set_ (p := ⟨b, 1, none⟩) (.inl rfl) (.int .i64 sv)) h3
        simp only [List.length_append, List.length_cons, List.length_nil, Nat.zero_add]
        rw [lineCells_snoc]
        exact h2
      · rcases Hnew.out with h | h
        · exact .inl h
        · obtain ⟨a, rfl, ha⟩ := h
          exact .inr ⟨a.block, rfl, by omega⟩
    · go_wp2_with fail
      go_end0
      refine ⟨rfl, ((Only.refl (fun g => g = b ∨ o = some g) w).set_ (p := ⟨b, 2, none⟩) (.inl (.inl rfl)) _).alloc _, ?_⟩
      have hE1 : lineS s kind n 0 = { s with err := 2 } := by unfold lineS; rw [Hse.out]; simp [hs]
      rw [hE1]
      exact ⟨o, ⟨v, (bk.set_ 2 _).alloc _, own_only own (((Only.refl (fun g => g = b) w).set_ (p := ⟨b, 2, none⟩) (.inl rfl) _).alloc _) (fun g hg e => by have := own_lt own hg; omega), ho⟩, .inl rfl⟩
  · go_wp2_with fail
    go_end0
    refine ⟨rfl, ((Only.refl (fun g => g = b ∨ o = some g) w).set_ (p := ⟨b, 2, none⟩) (.inl (.inl rfl)) _).alloc _, ?_⟩
    have hE1 : lineS s kind n e = { s with err := 2 } := by unfold lineS; simp [he]
    rw [hE1]
    exact ⟨o, ⟨v, (bk.set_ 2 _).alloc _, own_only own (((Only.refl (fun g => g = b) w).set_ (p := ⟨b, 2, none⟩) (.inl rfl) _).alloc _) (fun g hg e => by have := own_lt own hg; omega), ho⟩, .inl rfl⟩

set_option maxHeartbeats 1000000 in
attribute [local go_sem] ext_cell ext_frozen lt_ext ext_drew in
theorem add_any (w : World) (b base : Nat) (s : BillS) (o : Option Nat) (kind num den : Int) (h : BillIs w b base s o) (hb : b < base) (hB : base ≤ w.heap.size) (hf : fits s.total) (hl : s.ls.length ≤ 100) :
    Calls Try.prog 25 #[.pointer (some ⟨b, 0, none⟩), .int .i64 kind, .agg #[.int .i64 num, .int .i64 den]] w (Lined w b base (lineS s kind (shareV s.total num den) (shareE s.total num den)) o) := by
  obtain ⟨v, bk, own, ho⟩ := h
  have cB := bk.cell
  have lB := bk.lt
  go_enter Try.func25, Try.ntmps25
  go_wp2_with fail
  obtain ⟨sv, hsv⟩ : ∃ x, shareV s.total num den = x := ⟨_, rfl⟩
  obtain ⟨se, hse⟩ : ∃ x, shareE s.total num den = x := ⟨_, rfl⟩
  rw [hsv, hse]
  have Hsv := Lib.hid hsv
  have Hse := Lib.hid hse
  clear hsv hse
  refine wp_region_ext _ (by kernel_rfl) (by kernel_rfl) ?_
  repeat (go_big_quiet_step ((go_at_call 22; exact Calls.in_ext (share_two _ _ _ _ _ _ Hsv Hse))))
  refine wpQuiet_nil (fun u => ?_)
  have hbel : Below (w.heap.size + 1) (w.alloc (.cells #[.int .i64 num, .int .i64 den] 23)) (ext (w.alloc (.cells #[.int .i64 num, .int .i64 den] 23)) u) := by
    have h := below_ext (w.alloc (.cells #[.int .i64 num, .int .i64 den] 23)) u
    simpa using h
  have hb1 : Below w.heap.size w (ext (w.alloc (.cells #[.int .i64 num, .int .i64 den] 23)) u) := ((Below.refl _ w).alloc (Nat.le_refl _) _).trans (hbel.mono (by omega))
  have hs1 := hb1.size
  have hB1 : BillIs (ext (w.alloc (.cells #[.int .i64 num, .int .i64 den] 23)) u) b base s o := ⟨v, bk.below hb1, own_keep own hb1 (fun g hg => (own_lt own hg).2), ho⟩
  have HB1 := Lib.hid hB1
  have Hb1 := Lib.hid hb1
  have fsv : fits sv := by
    rw [← Hsv.out]; unfold shareV fits
    split
    · rename_i h; simp only [Bool.and_eq_true] at h; have := validB_out h.2; omega
    · omega
  clear hB1 hb1 hbel
  go_wp2_with fail
  refine (line_any _ b base s o kind sv se HB1.out hb (by omega) ⟨hf, fsv⟩ hl).mono ?_
  rintro e w2 ⟨rfl, hon, o', hB2, ho'⟩
  go_wp2_with fail
  go_end0
  rw [Hsv.out, Hse.out]
  refine ⟨rfl, (Only.of_below Hb1.out).trans hon, o', hB2, ?_⟩
  rcases ho' with h | ⟨g, h1, h2⟩
  · exact .inl h
  · exact .inr ⟨g, h1, by have := Hb1.out.size; omega⟩
end Go.Proofs.Ytdacfopdalgkaaa
