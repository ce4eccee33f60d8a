/- Readers of arguments that know how long their strings are (the form's own reach: no string takes more than 2^47 bytes); a law's row out of a walk with that knowledge. No program is named here. -/
import Derived.Test.YtecjhniomjmocaaBase
import Derived.SizedLaws
namespace Go.Proofs.Ytecjhniomjmocaa
open Go.RowKit Go.ChangeShapes Go.WideShapes Go.Deep
set_option linter.unusedVariables false

/-- A string of at most 2^50 bytes (an argument's has at most 2^47). -/
def tStr2 : Ty ByteArray where
  n := 1
  rd := fun _ _ cs x => cs = [.string x] ∧ x.size ≤ 1125899906842624
  len := by rintro _ _ _ _ ⟨rfl, _⟩; rfl
  keep := fun _ _ h => h

/-- Whatever the model's form reads at type t, and whose weights are in reach, the reader reads too. -/
def OpensZ {α : Type} (P : Program) (t : TypeId) (T : Ty α) : Prop :=
  P.cellsOf t = T.n ∧ ∀ (H : Type) (enc : TypeId × Value → H) (w : World) (spare : Nat → Bool) (held : Bool) (base fuel : Nat) (cs : List Value) (x : DataW H × List MemPlace),
    DataW.trod enc P w base spare held fuel t cs = some x → (∀ n ∈ x.1.weights P t, n ≤ reachBytes) → ∃ y, T.rd w w.heap.size cs y
theorem Opens.z {α : Type} {P : Program} {t : TypeId} {T : Ty α} (h : Opens P t T) : OpensZ P t T := ⟨h.1, fun H enc w spare held base fuel cs x hx _ => h.2 H enc w spare held base fuel cs x hx⟩
theorem opensZ_str {P : Program} {t : TypeId} (ht : P.underlying t = some .string) (hc : P.cellsOf t = 1) : OpensZ P t tStr2 :=
  ⟨hc, fun _ _ _ _ _ _ _ _ _ h hw => by
    obtain ⟨s, rfl, rfl, hs⟩ := DataW.trod_string ht h
    refine ⟨s, rfl, ?_⟩
    have h9 : s.data.toList.length ≤ reachBytes := hw _ (by simp [DataW.weights])
    have e : s.size = s.data.toList.length := by simp
    unfold reachBytes at h9
    omega⟩
theorem weightsAll_mem {H : Type} {P : Program} {e : TypeId} : ∀ {ds : List (DataW H)} {d : DataW H}, d ∈ ds → ∀ n ∈ d.weights P e, n ∈ DataW.weightsAll P e ds
  | [], _, h, _, _ => by cases h
  | d0 :: r, d, h, n, hn => by
    simp only [DataW.weightsAll, List.mem_append]
    rcases List.mem_cons.1 h with rfl | h
    · exact .inl hn
    · exact .inr (weightsAll_mem h n hn)
theorem opensZ_slice {α : Type} {P : Program} {t e : TypeId} {T : Ty α} (ht : P.underlying t = some (.slice e)) (hc : P.cellsOf t = 1) (hpos : 0 < T.n) (hT : OpensZ P e T) : OpensZ P t (tSlice T) :=
  ⟨hc, fun H enc w spare held base fuel cs x h hw => by
    rcases open_slice ht h with ⟨rfl, _⟩ | ⟨a, len, cap, m, n, D, Pl, rfl, _, hl, hm, hmm, rfl, hx⟩
    · exact ⟨[], none, 0, rfl, by simp, by simp [maxLen], Elems.nil⟩
    · have hlm : len ≤ m := by rw [hmm]; split <;> omega
      have hwi : ∀ i, i < len → ∀ n ∈ (D i).weights P e, n ≤ reachBytes := fun i hi n hn => by
        refine hw n ?_
        simp only [DataW.weights, ht, List.mem_cons, List.mem_append]
        exact .inr (.inl (weightsAll_mem (List.mem_map.2 ⟨i, List.mem_range.2 hi, rfl⟩) n hn))
      obtain ⟨b, off, spot⟩ := a
      have hall : ∀ i, i < len → ∃ y, ∃ b' off' cs', some (⟨b, off, spot⟩ : Addr) = some ⟨b', off', none⟩ ∧ b' < w.heap.size ∧ T.rd w w.heap.size cs' y ∧
          ∀ j u, cs'[j]? = some u → w.cell? ⟨b', off' + i * T.n + j, none⟩ = some u := fun i hi => by
        obtain ⟨cs', hcs, ht'⟩ := hx i (by omega)
        obtain ⟨y, hy⟩ := hT.2 H enc w spare held base n cs' _ ht' (hwi i hi)
        obtain ⟨_, hlen, hcell⟩ := World.cells?_some hcs
        rw [hT.1] at hcs hlen hcell
        have hl0 := T.len hy
        have c0 := hcell 0 hpos
        rw [List.getElem?_eq_getElem (by omega)] at c0
        obtain ⟨a0, ha0⟩ : ∃ a0 : Addr, a0 = ((⟨b, off, spot⟩ : Addr).add (i * T.n)) := ⟨_, rfl⟩
        have hb0 : a0.block = b := by rw [ha0]; unfold Addr.add; split <;> rfl
        have ho0 : a0.off = off + i * T.n := by rw [ha0]; unfold Addr.add; split <;> simp_all
        rw [← ha0] at c0 hcell
        have hsp : a0.spot = none := by simpa [Addr.add] using World.cell?_spot c0
        have hlt := World.block_lt_of_cell? w _ c0
        have ea : ∀ j, a0.add j = ⟨b, off + i * T.n + j, none⟩ := fun j => by
          obtain ⟨b1, o1, s1⟩ := a0
          simp only at hb0 ho0 hsp
          subst hb0 ho0 hsp
          unfold Addr.add
          split
          · rename_i hj; subst hj; rfl
          · rfl
        have hb1 : b < w.heap.size := by
          have e0 : (a0.add 0).block = b := by rw [ea]
          rw [← e0]; exact hlt
        have hfin : ∀ j u, cs'[j]? = some u → w.cell? ⟨b, off + i * T.n + j, none⟩ = some u := fun j u hu => by
          have hj : j < T.n := by
            have := (List.getElem?_eq_some_iff.1 hu).1
            omega
          rw [← ea, hcell j hj, hu]
        by_cases hs : spot = none
        · subst hs
          exact ⟨y, b, off, cs', rfl, hb1, hy, hfin⟩
        · exfalso
          by_cases hi0 : i * T.n = 0
          · apply hs
            rw [ha0] at hsp
            simpa [Addr.add, hi0] using hsp
          · obtain ⟨cs0, hcs0, ht0⟩ := hx 0 (by omega)
            obtain ⟨_, hlen0, hcell0⟩ := World.cells?_some hcs0
            rw [hT.1] at hlen0 hcell0
            have c00 := hcell0 0 hpos
            rw [List.getElem?_eq_getElem (by omega)] at c00
            apply hs
            simpa [Addr.add] using World.cell?_spot c00
      obtain ⟨xs, hxl, hxs⟩ := choose_list len hall
      refine ⟨xs, some ⟨b, off, spot⟩, cap, by rw [hxl], by omega, hm, fun i hi => ?_⟩
      obtain ⟨b', off', cs', e1, e2, e3, e4⟩ := hxs i hi
      exact ⟨b', off', cs', e1, e2, e3, e4⟩⟩
/-- A slice of at most 2^50 elements (an argument's takes at most 2^47 bytes). -/
def tSliceB {α : Type} (T : Ty α) : Ty (List α) where
  n := 1
  rd := fun w B cs xs => (tSlice T).rd w B cs xs ∧ xs.length ≤ 1125899906842624
  len := fun h => (tSlice T).len h.1
  keep := fun hb hB h => ⟨(tSlice T).keep hb hB h.1, h.2⟩
theorem opensZ_sliceB {α : Type} {P : Program} {t e : TypeId} {T : Ty α} (ht : P.underlying t = some (.slice e)) (hc : P.cellsOf t = 1) (hpos : 0 < T.n) (hby : 0 < P.bytesOf e) (hT : OpensZ P e T) : OpensZ P t (tSliceB T) :=
  ⟨hc, fun H enc w spare held base fuel cs x h hw => by
    obtain ⟨y, hy⟩ := (opensZ_slice ht hc hpos hT).2 H enc w spare held base fuel cs x h hw
    refine ⟨y, hy, ?_⟩
    obtain ⟨A, cap9, e9, _⟩ := hy
    rcases open_slice ht h with ⟨rfl, _⟩ | ⟨a, len, cap, m, n, D, Pl, rfl, _, hl, hm, hmm, rfl, hx⟩
    · simp only [List.cons.injEq, Value.slice.injEq, and_true] at e9
      omega
    · simp only [List.cons.injEq, Value.slice.injEq, and_true] at e9
      obtain ⟨_, e8, _⟩ := e9
      subst e8
      have h9 := hw ((y.length + (m - y.length)) * P.bytesOf e) (by
        simp only [DataW.weights, ht, List.mem_cons, List.mem_append]
        left
        simp)
      have h8 : y.length + (m - y.length) ≤ reachBytes := Nat.le_trans (Nat.le_mul_of_pos_right _ hby) h9
      unfold reachBytes at h8
      omega⟩
inductive FieldsZ (P : Program) : List Field → Nat → {α : Type} → Ty α → Prop
  | one {f : Field} {o : Nat} {α : Type} {T : Ty α} (ho : f.offset = o) (h : OpensZ P f.type T) : FieldsZ P [f] o T
  | cons {f : Field} {fs : List Field} {o : Nat} {α β : Type} {S : Ty α} {T : Ty β} (ho : f.offset = o) (h : OpensZ P f.type S) (r : FieldsZ P fs (o + S.n) T) : FieldsZ P (f :: fs) o (tPair S T)
theorem FieldsZ.reads {P : Program} {H : Type} {enc : TypeId × Value → H} {w : World} {spare : Nat → Bool} {held : Bool} {base m : Nat} :
    ∀ {fs : List Field} {o : Nat} {α : Type} {T : Ty α}, FieldsZ P fs o T → ∀ (cs : List Value), cs.length = o + T.n →
      (∀ f ∈ fs, ∃ x, DataW.trod enc P w base spare held m f.type ((cs.drop f.offset).take (P.cellsOf f.type)) = some x ∧ ∀ n ∈ x.1.weights P f.type, n ≤ reachBytes) → ∃ y, T.rd w w.heap.size (cs.drop o) y := by
  intro fs o α T h
  induction h with
  | one ho h =>
    intro cs hl hx
    obtain ⟨x, hx, hw⟩ := hx _ (List.mem_singleton.2 rfl)
    obtain ⟨y, hy⟩ := h.2 _ _ _ _ _ _ _ _ _ hx hw
    rw [ho, h.1, List.take_of_length_le (by simp; omega)] at hy
    exact ⟨y, hy⟩
  | cons ho h r ih =>
    rename_i f fs o α β S T
    intro cs hl hx
    obtain ⟨x, hx1, hw1⟩ := hx _ (List.mem_cons_self ..)
    obtain ⟨y1, hy1⟩ := h.2 _ _ _ _ _ _ _ _ _ hx1 hw1
    rw [ho, h.1] at hy1
    have hl' : cs.length = (o + S.n) + T.n := by rw [hl]; show o + (S.n + T.n) = _; omega
    obtain ⟨y2, hy2⟩ := ih cs hl' fun g hg => hx g (List.mem_cons_of_mem _ hg)
    refine ⟨(y1, y2), (cs.drop o).take S.n, (cs.drop (o + S.n)), ?_, hy1, hy2⟩
    rw [← List.drop_drop, List.take_append_drop]
theorem opensZ_struct {P : Program} {t : TypeId} {fs : Array Field} {α : Type} {T : Ty α} (ht : P.underlying t = some (.struct fs)) (hc : P.cellsOf t = T.n) (hf : FieldsZ P fs.toList 0 T) : OpensZ P t T :=
  ⟨hc, fun H enc w spare held base fuel cs x h hw => by
    obtain ⟨xs, n, _, rfl, hl, hxl, hx⟩ := DataW.trod_struct ht h
    obtain ⟨y, hy⟩ := hf.reads (enc := enc) (w := w) (spare := spare) (held := held) (base := base) (m := n) cs (by rw [hl, hc]; omega) fun f hf' => by
      obtain ⟨i, hi, rfl⟩ := List.mem_iff_getElem.1 hf'
      have hi2 : i < fs.size := by simpa using hi
      refine ⟨xs[i]'(by rw [hxl]; simpa using hi), ?_, fun n hn => hw n ?_⟩
      · rw [hx i _ (by simp)]
        exact List.getElem?_eq_getElem _
      · simp only [DataW.weights, ht]
        exact DataW.weights_mem_each (j := i) (t := (fs.toList[i]).type) (d := (xs[i]'(by rw [hxl]; simpa using hi)).1) (by simp [hi2]) (by simp [hxl, hi2]) n hn
    exact ⟨y, hy⟩⟩
theorem opensZ_arr {α : Type} {P : Program} {t e : TypeId} {m : Nat} {T : Ty α} (ht : P.underlying t = some (.array m e)) (hc : P.cellsOf t = m * T.n) (hT : OpensZ P e T) : OpensZ P t (tArr m T) :=
  ⟨hc, fun H enc w spare held base fuel cs x h hw => by
    obtain ⟨xs, n, _, rfl, hl, hxl, hx⟩ := DataW.trod_array ht h
    obtain ⟨ys, hyl, hys⟩ := choose_list (p := fun i y => T.rd w w.heap.size ((cs.drop (i * T.n)).take T.n) y) m fun i hi => by
      have h1 := hx i hi
      rw [List.getElem?_eq_getElem (by omega), hT.1] at h1
      refine hT.2 _ _ _ _ _ _ _ _ _ h1 fun n hn => hw n ?_
      simp only [DataW.weights, ht]
      exact weightsAll_mem (List.mem_map.2 ⟨_, List.getElem_mem _, rfl⟩) n hn
    exact ⟨ys, by rw [hl, hc], hyl, hys⟩⟩

/-- What a law's proof has of its arguments, with the weights. -/
structure GotZ (P : Program) (H : Type) (enc : TypeId × Value → H) (W : World) (t : TypeId) (v : Value) : Prop where
  ok : ∃ base, Value.okWide P W .any base t v
  reads : ∃ d ps, DataW.Trod enc P W 0 (fun _ => true) true t v d ps ∧ ∀ n ∈ d.weights P t, n ≤ reachBytes
theorem GotZ.got {P : Program} {H : Type} {enc : TypeId × Value → H} {W : World} {t : TypeId} {v : Value} (g : GotZ P H enc W t v) : Got P H enc W t v := ⟨g.ok, by obtain ⟨d, ps, h, _⟩ := g.reads; exact ⟨d, ps, h⟩⟩
inductive GotAllZ (P : Program) (H : Type) (enc : TypeId × Value → H) (W : World) : List TypeId → List Value → Prop
  | nil : GotAllZ P H enc W [] []
  | cons {t : TypeId} {ts : List TypeId} {v : Value} {vs : List Value} : GotZ P H enc W t v → GotAllZ P H enc W ts vs → GotAllZ P H enc W (t :: ts) (v :: vs)
theorem GotAllZ.cons_inv {P : Program} {H : Type} {enc : TypeId × Value → H} {W : World} {t : TypeId} {ts : List TypeId} {vs : List Value} (h : GotAllZ P H enc W (t :: ts) vs) :
    ∃ v us, vs = v :: us ∧ GotZ P H enc W t v ∧ GotAllZ P H enc W ts us := by
  cases h with
  | cons h1 h2 => exact ⟨_, _, rfl, h1, h2⟩
theorem GotAllZ.nil_inv {P : Program} {H : Type} {enc : TypeId × Value → H} {W : World} {vs : List Value} (h : GotAllZ P H enc W [] vs) : vs = [] := by
  cases h; rfl
theorem gotAllZ_of {P : Program} {H : Type} {enc : TypeId × Value → H} {W : World} {base : Nat} : ∀ {ts : List TypeId} {vs : List Value} {ds : List (DataW H)} {ps : List MemPlace},
    DataW.TrodAll enc P W 0 (fun _ => true) true ts vs ds ps → (∀ (j : Nat) t v, ts[j]? = some t → vs[j]? = some v → Value.okWide P W .any base t v) → (∀ n ∈ DataW.weightsEach P ts ds, n ≤ reachBytes) → GotAllZ P H enc W ts vs
  | [], _, _, _, h, _, _ => by
    obtain ⟨rfl, rfl, rfl⟩ := trodAll_nil h
    exact .nil
  | t :: ts, _, _, _, h, hok, hw => by
    obtain ⟨v, vs, d, ds, p, q, rfl, rfl, rfl, h1, h2⟩ := trodAll_cons h
    exact .cons ⟨⟨base, hok 0 t v rfl rfl⟩, ⟨d, p, h1, fun n hn => hw n (by simp only [DataW.weightsEach, List.mem_append]; exact .inl hn)⟩⟩
      (gotAllZ_of h2 (fun j u x hu hx => hok (j + 1) u x hu hx) fun n hn => hw n (by simp only [DataW.weightsEach, List.mem_append]; exact .inr hn))
/-- THE LAW's STEP, with the weights. -/
theorem law_liftedZ {C : Checked} {os : Os} {H : Type} {enc : TypeId × Value → H} {f : FuncId} {fn : Func} {s : ChangeSpec} {tb : TypeId}
    (own : ownKnob C.prog.godebug = none) (started : os.Started) (noInit : C.prog.inits.idxOf? f = none) (hfn : C.prog.funcs[f]? = some fn)
    (hv : s.vars = []) (hs : ∀ ds : List (DataW H), ds.length = fn.params.size → s.fn H ds = { results := [.lit (.bool true)], args := ds })
    (hres : fn.resultTypes = #[tb]) (htb : C.prog.underlying tb = some .bool) (hl : laidOutB C.prog = true) (hr : ∀ t ∈ fn.params.toList, C.prog.readableRec t = true ∧ t < C.prog.types.size)
    (witness : ∃ (w : World) (tape : Tape) (i : Input), w.os = os ∧ (w.forCall tape i).Shaped C.prog ∧ i.vars = [] ∧ Input.okWide C.prog (w.forCall tape i) .any w.heap.size f i ∧
      s.pre6 enc C.prog fn [] false (w.forCall tape i).memory i.args ∧ ({} : Assume).holds C.prog (lone (Frame.enter C.prog f i.args .normal) [] (w.forCall tape i)))
    (walk : ∀ (W : World) (args : Array Value), GotAllZ C.prog H enc W fn.params.toList args.toList → Calls C.prog f args W fun e W' => e = .returned (.bool true) ∧ Below W.heap.size W W') :
    ReturnsInHanded {} C os f .any (s.pre6 enc C.prog fn [] false) (s.post enc C.prog fn false true false false) := by
  refine returnsInHanded_of_change_sized own started noInit hfn witness ?_
  intro W base args ds gs before hval hW _ hwt _
  have hW' := hW
  obtain ⟨p, q, hA, hV, rfl, hfz, hnd⟩ := hW
  have hlen : ∀ {ts : List TypeId} {vs : List Value} {ds : List (DataW H)} {ps : List MemPlace}, DataW.TrodAll enc C.prog W 0 (fun _ => true) true ts vs ds ps → ds.length = ts.length := by
    intro ts
    induction ts with
    | nil => intro vs ds ps h; obtain ⟨_, rfl, _⟩ := trodAll_nil h; rfl
    | cons t ts ih => intro vs ds ps h; obtain ⟨v, vs, d, ds, p, q, rfl, rfl, rfl, h1, h2⟩ := trodAll_cons h; simp [ih h2]
  have happ : ∀ {ts us : List TypeId} {ds gs : List (DataW H)}, ds.length = ts.length → ∀ n ∈ DataW.weightsEach C.prog ts ds, n ∈ DataW.weightsEach C.prog (ts ++ us) (ds ++ gs) := by
    intro ts us ds gs
    induction ts generalizing ds with
    | nil => intro _ n hn; simp [DataW.weightsEach] at hn
    | cons t ts ih =>
      intro hl n hn
      cases ds with
      | nil => simp at hl
      | cons d ds =>
        simp only [List.cons_append, DataW.weightsEach, List.mem_append] at hn ⊢
        rcases hn with hn | hn
        · exact .inl hn
        · exact .inr (ih (by simpa using hl) n hn)
  have g := gotAllZ_of (base := base) hA (fun j t v ht hv' => hval j t v (by simpa using ht) (by simpa using hv')) (fun n hn => by
    have := List.all_eq_true.1 hwt n (happ (hlen hA) n hn)
    simpa using this)
  refine (walk W args g).mono fun e W' ⟨he, hb⟩ => ⟨_, he, ?_⟩
  exact law_post hW' hv (hs ds (by rw [hlen hA]; simp)) hres htb hl hr hb
theorem GotZ.agg {α : Type} {P : Program} {H : Type} {enc : TypeId × Value → H} {w : World} {t : TypeId} {fs : Array Field} {T : Ty α} {v : Value}
    (g : GotZ P H enc w t v) (ht : P.underlying t = some (.struct fs)) (hT : OpensZ P t T) : ∃ cs y, v = .agg cs ∧ T.rd w w.heap.size cs.toList y := by
  obtain ⟨⟨base, hv⟩, d, ps, h, hw⟩ := g
  obtain ⟨cs, rfl, _⟩ := okWide_struct ht hv
  obtain ⟨n, hn⟩ := h
  obtain ⟨y, hy⟩ := hT.2 _ _ _ _ _ _ _ _ _ hn hw
  exact ⟨cs, y, rfl, hy⟩
end Go.Proofs.Ytecjhniomjmocaa
