/- Maps of bools that a call has made: what they hold, as a function of the key. No program is named here. -/
import Derived.Test.YtecjhniomjmocaaOnly
import Derived.Maps.OwnSet
import Derived.Maps.OwnOps
namespace Go.Proofs.Ytecjhniomjmocaa
open Go.RowKit Go.Maps
set_option linter.unusedVariables false
set_option linter.unusedSimpArgs false

/-- What stands behind 'm[k] = v'. -/
def putF {κ : Type} [DecidableEq κ] (f : κ → Option Bool) (c : κ) (v : Bool) : κ → Option Bool := fun x => if x = c then some v else f x
section
variable {κ : Type} [DecidableEq κ]
theorem putF_same (f : κ → Option Bool) (c : κ) (v : Bool) : putF f c v c = some v := if_pos rfl
theorem putF_other (f : κ → Option Bool) {c x : κ} (v : Bool) (h : x ≠ c) : putF f c v x = f x := if_neg h
end

/-- Block b is a map with bools, of m entries; f says which. -/
def MapB {κ : Type} (lit : κ → Lit) (P : Program) (k e : TypeId) (w : World) (b m : Nat) (f : κ → Option Bool) : Prop :=
  ∃ D : DataW Unit, w.ownsMap P k (plainElem P e) b m D ∧ size D = m ∧ ∀ c, has D (lit c) = (f c).isSome ∧ D.atKey (lit c) (.lit (.bool false)) = .lit (.bool ((f c).getD false))

section
variable {κ : Type} {lit : κ → Lit} {P : Program} {k e t : TypeId} {w w' : World} {b m : Nat} {f : κ → Option Bool}

theorem plainElem_bool_inv (he : P.underlying e = some .bool) {v : Value} {z : DataW Unit × List MemPlace} (h : plainElem P e v = some z) : ∃ x, v = .bool x ∧ z = (.lit (.bool x), []) := by
  unfold plainElem at h
  rw [he] at h
  cases v <;> simp at h
  exact ⟨_, rfl, h.symm⟩

theorem MapB.lt (h : MapB lit P k e w b m f) : b < w.heap.size := by
  obtain ⟨D, h, _⟩ := h
  exact h.lt
theorem MapB.only {S : Nat → Prop} (h : MapB lit P k e w b m f) (ho : Only S w w') (hn : ¬ S b) : MapB lit P k e w' b m f := by
  obtain ⟨D, h1, h2, h3⟩ := h
  refine ⟨D, ?_, h2, h3⟩
  have hb := h1.lt
  obtain ⟨es, clock, hh, r⟩ := h1
  exact ⟨es, clock, (ho.block b hb hn).trans hh, r⟩
theorem MapB.below (h : MapB lit P k e w b m f) (hb : Below w.heap.size w w') : MapB lit P k e w' b m f := h.only (Only.of_below (S := fun _ => False) hb) (fun h => h)
theorem MapB.new (lit : κ → Lit) (P : Program) (k e : TypeId) (w : World) : MapB lit P k e (w.alloc (.map #[] 0)) w.heap.size 0 (fun _ => none) :=
  ⟨.map [], World.ownsMap_made w P k _, rfl, fun _ => ⟨rfl, rfl⟩⟩

theorem MapB.look (h : MapB lit P k e w b m f) (K : Keyed P k) (ht : P.underlying t = some (.map k e)) (he : P.underlying e = some .bool) (hz : (zeroValue e).run P w = .ok (.bool false) w) {key : Value} {c : κ} (hkey : keyOf P k key = some (lit c)) :
    (Instr.lookup t (.map (some b)) key false).run P w = .ok (.bool ((f c).getD false)) w := by
  obtain ⟨D, h1, _, h3⟩ := h
  obtain ⟨v, ps, hrun, hv⟩ := h1.lookup K ht hz (plainElem_bool he false) hkey
  obtain ⟨x, rfl, hx⟩ := plainElem_bool_inv he hv
  rw [hrun]
  have := (congrArg Prod.fst hx)
  simp only [(h3 c).2, DataW.lit.injEq, Lit.bool.injEq] at this
  rw [this]
theorem MapB.look_ok (h : MapB lit P k e w b m f) (K : Keyed P k) (ht : P.underlying t = some (.map k e)) (he : P.underlying e = some .bool) (hz : (zeroValue e).run P w = .ok (.bool false) w) {key : Value} {c : κ} (hkey : keyOf P k key = some (lit c)) :
    (Instr.lookup t (.map (some b)) key true).run P w = .ok (.tuple #[.bool ((f c).getD false), .bool (f c).isSome]) w := by
  obtain ⟨D, h1, _, h3⟩ := h
  obtain ⟨v, ps, hrun, hv⟩ := h1.look_ok K ht hz (plainElem_bool he false) hkey
  obtain ⟨x, rfl, hx⟩ := plainElem_bool_inv he hv
  rw [hrun, (h3 c).1]
  have := (congrArg Prod.fst hx)
  simp only [(h3 c).2, DataW.lit.injEq, Lit.bool.injEq] at this
  rw [this]
theorem MapB.store [DecidableEq κ] (h : MapB lit P k e w b m f) (K : Keyed P k) (ht : P.underlying t = some (.map k e)) (he : P.underlying e = some .bool) (hinj : ∀ x y, lit x = lit y → x = y) (hm : m < maxLen) {key : Value} {c : κ} (hkey : keyOf P k key = some (lit c)) (v : Bool) :
    ∃ w', (Instr.mapUpdate t (.map (some b)) key (.bool v)).run P w = .ok () w' ∧ MapB lit P k e w' b (if (f c).isSome then m else m + 1) (putF f c v) ∧ Only (fun g => g = b) w w' := by
  obtain ⟨D, h1, h2, h3⟩ := h
  obtain ⟨w', hrun, h4, h5⟩ := h1.update K ht hm hkey (plainElem_bool he v)
  have hk := K.key hkey
  have hsz := size_put (h1.tidy K) (k := lit c) (.lit (.bool v))
  rw [(h3 c).1, h2] at hsz
  refine ⟨w', hrun, ⟨D.put (lit c) (.lit (.bool v)), ?_, hsz, fun x => ?_⟩, ?_⟩
  · obtain ⟨es, clock, hb, F, hs, e⟩ := h4
    refine ⟨es, clock, hb, F, ?_, e⟩
    have : size (D.put (lit c) (.lit (.bool v))) = es.size := by
      rw [e]; simp [size, Go.length_sorted]
    omega
  · by_cases hx : x = c
    · subst hx
      rw [putF_same]
      exact ⟨has_put_same h1.isMap hk _, atKey_put_same h1.isMap hk _ _⟩
    · have hl : lit x ≠ lit c := fun e => hx (hinj _ _ e)
      rw [putF_other f v hx, has_put_other hl, atKey_put_other hl]
      exact h3 x
  · exact (Only.refl (fun g => g = b) w).grown h5 (fun g hg => .inl (by simpa using hg.symm))
theorem MapB.len (h : MapB lit P k e w b m f) (ht : P.underlying t = some (.map k e)) (ty : TypeId) : (Builtin.len_ #[t] ty #[.map (some b)]).run P w = .ok (.int .i64 m) w := by
  obtain ⟨D, h1, h2, _⟩ := h
  have := h1.len ht ty
  rwa [h2] at this
end

/-! ### at the operation -/
section
variable {κ : Type} {lit : κ → Lit} {P : Program} {w : World} {ops : Array Oper} {rest : List Oper} {o : Oper} {a : Act} {Q : Exit → Act → World → Prop} {b m : Nat} {f : κ → Option Bool}

theorem list_look (hg : o.guard = none) (mm x : Operand) (t : TypeId) (hop : o.op = Op.lookup t mm x false) (k e : TypeId) (K : Keyed P k) (ht : P.underlying t = some (.map k e)) (he : P.underlying e = some .bool) (hz : (zeroValue e).run P w = .ok (.bool false) w)
    (hm : a.eval mm = .map (some b)) (h : MapB lit P k e w b m f) (key : Value) (c : κ) (hx : a.eval x = key) (hkey : keyOf P k key = some (lit c)) (hK : wpList P ops Q rest (a.put o.dst (.bool ((f c).getD false))) w) : wpList P ops Q (o :: rest) a w := by
  refine wpList_plain hg fun K' hK' => ?_
  have hrun := h.look K ht he hz hkey
  unfold Oper.wp
  simp [execOp, hop, hm, hx, hrun, Result.andThen]
  exact hK' _ _ hK
theorem list_look_ok (hg : o.guard = none) (mm x : Operand) (t : TypeId) (hop : o.op = Op.lookup t mm x true) (k e : TypeId) (K : Keyed P k) (ht : P.underlying t = some (.map k e)) (he : P.underlying e = some .bool) (hz : (zeroValue e).run P w = .ok (.bool false) w)
    (hm : a.eval mm = .map (some b)) (h : MapB lit P k e w b m f) (key : Value) (c : κ) (hx : a.eval x = key) (hkey : keyOf P k key = some (lit c)) (hK : wpList P ops Q rest (a.put o.dst (.tuple #[.bool ((f c).getD false), .bool (f c).isSome])) w) : wpList P ops Q (o :: rest) a w := by
  refine wpList_plain hg fun K' hK' => ?_
  have hrun := h.look_ok K ht he hz hkey
  unfold Oper.wp
  simp [execOp, hop, hm, hx, hrun, Result.andThen]
  exact hK' _ _ hK
theorem list_store [DecidableEq κ] (hg : o.guard = none) (mm x v : Operand) (t : TypeId) (hop : o.op = Op.mapUpdate t mm x v) (k e : TypeId) (K : Keyed P k) (ht : P.underlying t = some (.map k e)) (he : P.underlying e = some .bool) (hinj : ∀ x y, lit x = lit y → x = y) (hlen : m < maxLen)
    (hm : a.eval mm = .map (some b)) (h : MapB lit P k e w b m f) (key : Value) (c : κ) (hx : a.eval x = key) (hkey : keyOf P k key = some (lit c)) (y : Bool) (hv : a.eval v = .bool y)
    (hK : ∀ w', MapB lit P k e w' b (if (f c).isSome then m else m + 1) (putF f c y) → Only (fun g => g = b) w w' → wpList P ops Q rest (a.put o.dst undef) w') : wpList P ops Q (o :: rest) a w := by
  refine wpList_plain hg fun K' hK' => ?_
  obtain ⟨w', hrun, h1, h2⟩ := h.store K ht he hinj hlen hkey y
  unfold Oper.wp
  simp [execOp, hop, hm, hx, hv, hrun, Result.andThen]
  exact hK' _ _ (hK w' h1 h2)
end
end Go.Proofs.Ytecjhniomjmocaa
