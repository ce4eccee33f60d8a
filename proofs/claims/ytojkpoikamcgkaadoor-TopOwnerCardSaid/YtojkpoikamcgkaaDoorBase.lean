/- How Go data in memory read as Lean data: readers, how they are kept while memory grows, and how an argument is opened. No program is named here. -/
import Derived.WalkKit
import Derived.ProofKit
import Derived.OpenShut
import Derived.Deep.Slices
import Derived.Deep.Draws
import Derived.Lib.Hide
namespace Go.Proofs.YtojkpoikamcgkaaDoor
open Go.RowKit Go.ChangeShapes Go.WideShapes Go.Deep
set_option linter.unusedVariables false

/-! ### Memory that grows -/

theorem below_drewN {B : Nat} {a w : World} (h : Below B a w) (n : Nat) : Below B a (w.drewN n) := ⟨h.os, h.tape, h.output, h.size, h.block⟩

/-- What a callee left alone, in the two rules that a walk uses by itself. -/
theorem old_cells {B : Nat} {w w' : World} (h : Below B w w') :
    (∀ b o, b < B → w'.cell? ⟨b, o, none⟩ = w.cell? ⟨b, o, none⟩) ∧ (∀ b o, b < B → w'.frozen? ⟨b, o, none⟩ = w.frozen? ⟨b, o, none⟩) :=
  ⟨fun b o hb => h.cell (p := ⟨b, o, none⟩) hb, fun b o hb => h.frozen (p := ⟨b, o, none⟩) hb⟩

/-! ### Readers -/

/-- A reader: how a row of cells, in a world, reads as a datum; all that it looks at lies below a block. -/
structure Ty (α : Type) where
  n : Nat
  rd : World → Nat → List Value → α → Prop
  len : ∀ {w B cs x}, rd w B cs x → cs.length = n
  keep : ∀ {w w' B B' cs x}, Below B w w' → B ≤ B' → rd w B cs x → rd w' B' cs x

def tInt : Ty Int where
  n := 1
  rd := fun _ _ cs x => cs = [.int .i64 x] ∧ -9223372036854775808 ≤ x ∧ x ≤ 9223372036854775807
  len := by rintro _ _ _ _ ⟨rfl, _⟩; rfl
  keep := fun _ _ h => h

def tU8 : Ty Int where
  n := 1
  rd := fun _ _ cs x => cs = [.int .u8 x] ∧ 0 ≤ x ∧ x ≤ 255
  len := by rintro _ _ _ _ ⟨rfl, _⟩; rfl
  keep := fun _ _ h => h

def tU16 : Ty Int where
  n := 1
  rd := fun _ _ cs x => cs = [.int .u16 x] ∧ 0 ≤ x ∧ x ≤ 65535
  len := by rintro _ _ _ _ ⟨rfl, _⟩; rfl
  keep := fun _ _ h => h

def tU32 : Ty Int where
  n := 1
  rd := fun _ _ cs x => cs = [.int .u32 x] ∧ 0 ≤ x ∧ x ≤ 4294967295
  len := by rintro _ _ _ _ ⟨rfl, _⟩; rfl
  keep := fun _ _ h => h

def tBool : Ty Bool where
  n := 1
  rd := fun _ _ cs x => cs = [.bool x]
  len := by rintro _ _ _ _ rfl; rfl
  keep := fun _ _ h => h

def tStr : Ty ByteArray where
  n := 1
  rd := fun _ _ cs x => cs = [.string x] ∧ x.size ≤ maxLen
  len := by rintro _ _ _ _ ⟨rfl, _⟩; rfl
  keep := fun _ _ h => h

/-- Two things side by side. -/
def tPair {α β : Type} (S : Ty α) (T : Ty β) : Ty (α × β) where
  n := S.n + T.n
  rd := fun w B cs x => ∃ c1 c2, cs = c1 ++ c2 ∧ S.rd w B c1 x.1 ∧ T.rd w B c2 x.2
  len := by rintro _ _ _ _ ⟨c1, c2, rfl, h1, h2⟩; rw [List.length_append, S.len h1, T.len h2]
  keep := fun hb hB ⟨c1, c2, e, h1, h2⟩ => ⟨c1, c2, e, S.keep hb hB h1, T.keep hb hB h2⟩

/-- A datum seen through a function. -/
def tIso {α β : Type} (T : Ty α) (f : β → α) : Ty β where
  n := T.n
  rd := fun w B cs x => T.rd w B cs (f x)
  len := fun h => T.len h
  keep := fun hb hB h => T.keep hb hB h

/-- The elements of a slice: element number i lies at 'b', from 'off + i * n' on. -/
def Elems {α : Type} (T : Ty α) (w : World) (B : Nat) (A : Option Addr) (xs : List α) : Prop :=
  ∀ i (h : i < xs.length), ∃ b off cs, A = some ⟨b, off, none⟩ ∧ b < B ∧ T.rd w B cs xs[i] ∧ ∀ j u, cs[j]? = some u → w.cell? ⟨b, off + i * T.n + j, none⟩ = some u

def tSlice {α : Type} (T : Ty α) : Ty (List α) where
  n := 1
  rd := fun w B cs xs => ∃ A cap, cs = [.slice A xs.length cap] ∧ xs.length ≤ cap ∧ cap ≤ maxLen ∧ Elems T w B A xs
  len := by rintro _ _ _ _ ⟨A, cap, rfl, _⟩; rfl
  keep := fun {w w' B B' cs xs} hb hB ⟨A, cap, e, h1, h2, h3⟩ => ⟨A, cap, e, h1, h2, fun i hi => by
    obtain ⟨b, off, ds, hA, hlt, hr, hc⟩ := h3 i hi
    exact ⟨b, off, ds, hA, by omega, T.keep hb hB hr, fun j u hu => (hb.cell (p := ⟨b, off + i * T.n + j, none⟩) hlt).trans (hc j u hu)⟩⟩

/-- An array: its elements one behind the other. -/
def tArr {α : Type} (m : Nat) (T : Ty α) : Ty (List α) where
  n := m * T.n
  rd := fun w B cs xs => cs.length = m * T.n ∧ xs.length = m ∧ ∀ i (h : i < xs.length), T.rd w B ((cs.drop (i * T.n)).take T.n) xs[i]
  len := fun h => h.1
  keep := fun hb hB ⟨h1, h2, h3⟩ => ⟨h1, h2, fun i hi => T.keep hb hB (h3 i hi)⟩

/-! ### Slices at hand -/

section
variable {α : Type} {T : Ty α} {w w' : World} {B B' : Nat} {A : Option Addr} {xs : List α}

theorem Elems.nil : Elems T w B A ([] : List α) := fun i hi => absurd hi (by simp)

theorem Elems.keep (h : Elems T w B A xs) (hb : Below B w w') (hB : B ≤ B') : Elems T w' B' A xs := fun i hi => by
  obtain ⟨b, off, ds, hA, hlt, hr, hc⟩ := h i hi
  exact ⟨b, off, ds, hA, by omega, T.keep hb hB hr, fun j u hu => (hb.cell (p := ⟨b, off + i * T.n + j, none⟩) hlt).trans (hc j u hu)⟩

theorem tSlice_form {cs : List Value} (h : (tSlice T).rd w B cs xs) : ∃ A cap, cs = [.slice A xs.length cap] ∧ xs.length ≤ cap ∧ cap ≤ maxLen ∧ Elems T w B A xs := h

theorem tSlice_mk {cap : Nat} (h1 : xs.length ≤ cap) (h2 : cap ≤ maxLen) (h : Elems T w B A xs) : (tSlice T).rd w B [.slice A xs.length cap] xs := ⟨A, cap, rfl, h1, h2, h⟩

/-- A row that is known cell by cell. -/
theorem Elems.of_cells {b off : Nat} (hb : b < B) (css : List (List Value))
    (hr : ∀ i (h : i < xs.length), T.rd w B (css.getD i []) xs[i])
    (hc : ∀ i j u, i < xs.length → (css.getD i [])[j]? = some u → w.cell? ⟨b, off + i * T.n + j, none⟩ = some u) : Elems T w B (some ⟨b, off, none⟩) xs :=
  fun i hi => ⟨b, off, css.getD i [], rfl, hb, hr i hi, fun j u hu => hc i j u hi hu⟩
end

/-- An element at hand: its number k, the rest of the list, its cells. -/
theorem Elems.pick {α : Type} {T : Ty α} {w : World} {B : Nat} {A : Option Addr} {xs : List α} (h : Elems T w B A xs) {k : Nat} (hk : k < xs.length) :
    ∃ b off x cs, A = some ⟨b, off, none⟩ ∧ b < B ∧ xs.drop k = x :: xs.drop (k + 1) ∧ xs[k]? = some x ∧ x ∈ xs ∧ T.rd w B cs x ∧ ∀ j u, cs[j]? = some u → w.cell? ⟨b, off + k * T.n + j, none⟩ = some u := by
  obtain ⟨b, off, cs, hA, hb, hr, hc⟩ := h k hk
  exact ⟨b, off, xs[k], cs, hA, hb, List.drop_eq_getElem_cons hk, List.getElem?_eq_getElem hk, List.getElem_mem hk, hr, hc⟩

/-- An int of a slice of ints. -/
theorem Elems.pick_int {w : World} {B : Nat} {A : Option Addr} {xs : List Int} (h : Elems tInt w B A xs) {k : Nat} (hk : k < xs.length) :
    ∃ b off x, A = some ⟨b, off, none⟩ ∧ b < B ∧ Hid (xs.drop k = x :: xs.drop (k + 1)) ∧ Hid (xs[k]? = some x) ∧ w.cell? ⟨b, off + k, none⟩ = some (.int .i64 x) ∧ -9223372036854775808 ≤ x ∧ x ≤ 9223372036854775807 := by
  obtain ⟨b, off, x, cs, hA, hb, hd, hx, _, ⟨rfl, h1, h2⟩, hc⟩ := h.pick hk
  exact ⟨b, off, x, hA, hb, hd, hx, by simpa [tInt] using hc 0 _ rfl, h1, h2⟩

theorem ret_bool {a b : Bool} (h : a = b) : Ending.returned (.bool a) = .returned (.bool b) := by rw [h]
theorem ret_int {k : IntKind} {a b : Int} (h : a = b) : Ending.returned (.int k a) = .returned (.int k b) := by rw [h]
theorem val_bool {a b : Bool} (h : a = b) : Value.bool a = .bool b := by rw [h]
theorem val_int {k : IntKind} {a b : Int} (h : a = b) : Value.int k a = .int k b := by rw [h]

/-- The walk's words for the built-in max and min: laid as hypotheses they turn into Lean's own. -/
theorem ite_max (x y : Int) : (if x < y then y else x) = max x y := by omega
theorem ite_min (x y : Int) : (if y < x then y else x) = min x y := by omega

/-! ### Arguments opened -/

/-- Whatever the model's form reads at type t of program P, the reader reads too. -/
def Opens {α : Type} (P : Program) (t : TypeId) (T : Ty α) : Prop :=
  P.cellsOf t = T.n ∧ ∀ (H : Type) (enc : TypeId × Value → H) (w : World) (spare : Nat → Bool) (held : Bool) (base fuel : Nat) (cs : List Value) (x : DataW H × List MemPlace),
    DataW.trod enc P w base spare held fuel t cs = some x → ∃ y, T.rd w w.heap.size cs y

theorem opens_int {P : Program} {t : TypeId} (ht : P.underlying t = some (.int .i64)) (hc : P.cellsOf t = 1) : Opens P t tInt :=
  ⟨hc, fun _ _ _ _ _ _ _ _ _ h => by
    obtain ⟨n, rfl, _, hw⟩ := DataW.trod_int ht h
    refine ⟨n, rfl, ?_⟩
    simpa [Lit.wf, IntKind.min, IntKind.max, IntKind.signed, IntKind.bits] using hw⟩

theorem opens_u8 {P : Program} {t : TypeId} (ht : P.underlying t = some (.int .u8)) (hc : P.cellsOf t = 1) : Opens P t tU8 :=
  ⟨hc, fun _ _ _ _ _ _ _ _ _ h => by
    obtain ⟨n, rfl, _, hw⟩ := DataW.trod_int ht h
    refine ⟨n, rfl, ?_⟩
    simpa [Lit.wf, IntKind.min, IntKind.max, IntKind.signed, IntKind.bits] using hw⟩

theorem opens_u16 {P : Program} {t : TypeId} (ht : P.underlying t = some (.int .u16)) (hc : P.cellsOf t = 1) : Opens P t tU16 :=
  ⟨hc, fun _ _ _ _ _ _ _ _ _ h => by
    obtain ⟨n, rfl, _, hw⟩ := DataW.trod_int ht h
    refine ⟨n, rfl, ?_⟩
    simpa [Lit.wf, IntKind.min, IntKind.max, IntKind.signed, IntKind.bits] using hw⟩

theorem opens_u32 {P : Program} {t : TypeId} (ht : P.underlying t = some (.int .u32)) (hc : P.cellsOf t = 1) : Opens P t tU32 :=
  ⟨hc, fun _ _ _ _ _ _ _ _ _ h => by
    obtain ⟨n, rfl, _, hw⟩ := DataW.trod_int ht h
    refine ⟨n, rfl, ?_⟩
    simpa [Lit.wf, IntKind.min, IntKind.max, IntKind.signed, IntKind.bits] using hw⟩

theorem opens_bool {P : Program} {t : TypeId} (ht : P.underlying t = some .bool) (hc : P.cellsOf t = 1) : Opens P t tBool :=
  ⟨hc, fun _ _ _ _ _ _ _ _ _ h => by
    obtain ⟨b, rfl, _⟩ := DataW.trod_bool ht h
    exact ⟨b, rfl⟩⟩

theorem opens_str {P : Program} {t : TypeId} (ht : P.underlying t = some .string) (hc : P.cellsOf t = 1) : Opens P t tStr :=
  ⟨hc, fun _ _ _ _ _ _ _ _ _ h => by
    obtain ⟨s, rfl, _, hs⟩ := DataW.trod_string ht h
    exact ⟨s, rfl, hs⟩⟩

theorem choose_list {α : Type} {p : Nat → α → Prop} : ∀ (n : Nat), (∀ i, i < n → ∃ x, p i x) → ∃ xs : List α, xs.length = n ∧ ∀ i (h : i < xs.length), p i xs[i]
  | 0, _ => ⟨[], rfl, fun i h => absurd h (by simp)⟩
  | n + 1, h => by
    obtain ⟨xs, hl, hp⟩ := choose_list n fun i hi => h i (by omega)
    obtain ⟨x, hx⟩ := h n (by omega)
    refine ⟨xs ++ [x], by simp [hl], fun i hi => ?_⟩
    by_cases hin : i < xs.length
    · rw [List.getElem_append_left hin]
      exact hp i hin
    · have : i = n := by simp at hi; omega
      subst this
      rw [List.getElem_append_right (by omega)]
      simpa using hx

theorem opens_slice {α : Type} {P : Program} {t e : TypeId} {T : Ty α} (ht : P.underlying t = some (.slice e)) (hc : P.cellsOf t = 1) (hpos : 0 < T.n) (hT : Opens P e T) : Opens P t (tSlice T) :=
  ⟨hc, fun H enc w spare held base fuel cs x h => by
    rcases open_slice ht h with ⟨rfl, _⟩ | ⟨a, len, cap, m, n, D, Pl, rfl, _, hl, hm, hmm, _, hx⟩
    · exact ⟨[], none, 0, rfl, by simp, by simp [maxLen], Elems.nil⟩
    · have hlm : len ≤ m := by rw [hmm]; split <;> omega
      obtain ⟨b, off, spot⟩ := a
      have hall : ∀ i, i < len → ∃ y, ∃ b' off' cs', some (⟨b, off, spot⟩ : Addr) = some ⟨b', off', none⟩ ∧ b' < w.heap.size ∧ T.rd w w.heap.size cs' y ∧
          ∀ j u, cs'[j]? = some u → w.cell? ⟨b', off' + i * T.n + j, none⟩ = some u := fun i hi => by
        obtain ⟨cs', hcs, ht'⟩ := hx i (by omega)
        obtain ⟨y, hy⟩ := hT.2 H enc w spare held base n cs' _ ht'
        obtain ⟨_, hlen, hcell⟩ := World.cells?_some hcs
        rw [hT.1] at hcs hlen hcell
        have hl0 := T.len hy
        have c0 := hcell 0 hpos
        rw [List.getElem?_eq_getElem (by omega)] at c0
        obtain ⟨a0, ha0⟩ : ∃ a0 : Addr, a0 = ((⟨b, off, spot⟩ : Addr).add (i * T.n)) := ⟨_, rfl⟩
        have hb0 : a0.block = b := by rw [ha0]; unfold Addr.add; split <;> rfl
        have ho0 : a0.off = off + i * T.n := by rw [ha0]; unfold Addr.add; split <;> simp_all
        rw [← ha0] at c0 hcell
        have hsp : a0.spot = none := by simpa [Addr.add] using World.cell?_spot c0
        have hlt := World.block_lt_of_cell? w _ c0
        have ea : ∀ j, a0.add j = ⟨b, off + i * T.n + j, none⟩ := fun j => by
          obtain ⟨b1, o1, s1⟩ := a0
          simp only at hb0 ho0 hsp
          subst hb0 ho0 hsp
          unfold Addr.add
          split
          · rename_i hj; subst hj; rfl
          · rfl
        have hb1 : b < w.heap.size := by
          have e0 : (a0.add 0).block = b := by rw [ea]
          rw [← e0]; exact hlt
        have hfin : ∀ j u, cs'[j]? = some u → w.cell? ⟨b, off + i * T.n + j, none⟩ = some u := fun j u hu => by
          have hj : j < T.n := by
            have := (List.getElem?_eq_some_iff.1 hu).1
            omega
          rw [← ea, hcell j hj, hu]
        by_cases hs : spot = none
        · subst hs
          exact ⟨y, b, off, cs', rfl, hb1, hy, hfin⟩
        · exfalso
          by_cases hi0 : i * T.n = 0
          · apply hs
            rw [ha0] at hsp
            simpa [Addr.add, hi0] using hsp
          · obtain ⟨cs0, hcs0, ht0⟩ := hx 0 (by omega)
            obtain ⟨_, hlen0, hcell0⟩ := World.cells?_some hcs0
            rw [hT.1] at hlen0 hcell0
            have c00 := hcell0 0 hpos
            rw [List.getElem?_eq_getElem (by omega)] at c00
            apply hs
            simpa [Addr.add] using World.cell?_spot c00
      obtain ⟨xs, hxl, hxs⟩ := choose_list len hall
      refine ⟨xs, some ⟨b, off, spot⟩, cap, by rw [hxl], by omega, hm, fun i hi => ?_⟩
      obtain ⟨b', off', cs', e1, e2, e3, e4⟩ := hxs i hi
      exact ⟨b', off', cs', e1, e2, e3, e4⟩⟩

/-- A struct's fields, one behind the other, from cell 'o' on. -/
inductive Fields (P : Program) : List Field → Nat → {α : Type} → Ty α → Prop
  | one {f : Field} {o : Nat} {α : Type} {T : Ty α} (ho : f.offset = o) (h : Opens P f.type T) : Fields P [f] o T
  | cons {f : Field} {fs : List Field} {o : Nat} {α β : Type} {S : Ty α} {T : Ty β} (ho : f.offset = o) (h : Opens P f.type S) (r : Fields P fs (o + S.n) T) : Fields P (f :: fs) o (tPair S T)

theorem Fields.reads {P : Program} {H : Type} {enc : TypeId × Value → H} {w : World} {spare : Nat → Bool} {held : Bool} {base m : Nat} :
    ∀ {fs : List Field} {o : Nat} {α : Type} {T : Ty α}, Fields P fs o T → ∀ (cs : List Value), cs.length = o + T.n →
      (∀ f ∈ fs, ∃ x, DataW.trod enc P w base spare held m f.type ((cs.drop f.offset).take (P.cellsOf f.type)) = some x) → ∃ y, T.rd w w.heap.size (cs.drop o) y := by
  intro fs o α T h
  induction h with
  | one ho h =>
    intro cs hl hx
    obtain ⟨x, hx⟩ := hx _ (List.mem_singleton.2 rfl)
    obtain ⟨y, hy⟩ := h.2 _ _ _ _ _ _ _ _ _ hx
    rw [ho, h.1, List.take_of_length_le (by simp; omega)] at hy
    exact ⟨y, hy⟩
  | cons ho h r ih =>
    rename_i f fs o α β S T
    intro cs hl hx
    obtain ⟨x, hx1⟩ := hx _ (List.mem_cons_self ..)
    obtain ⟨y1, hy1⟩ := h.2 _ _ _ _ _ _ _ _ _ hx1
    rw [ho, h.1] at hy1
    have hl' : cs.length = (o + S.n) + T.n := by rw [hl]; show o + (S.n + T.n) = _; omega
    obtain ⟨y2, hy2⟩ := ih cs hl' fun g hg => hx g (List.mem_cons_of_mem _ hg)
    refine ⟨(y1, y2), (cs.drop o).take S.n, (cs.drop (o + S.n)), ?_, hy1, hy2⟩
    rw [← List.drop_drop, List.take_append_drop]

theorem opens_struct {P : Program} {t : TypeId} {fs : Array Field} {α : Type} {T : Ty α} (ht : P.underlying t = some (.struct fs)) (hc : P.cellsOf t = T.n) (hf : Fields P fs.toList 0 T) : Opens P t T :=
  ⟨hc, fun H enc w spare held base fuel cs x h => by
    obtain ⟨xs, n, _, _, hl, hxl, hx⟩ := DataW.trod_struct ht h
    obtain ⟨y, hy⟩ := hf.reads (enc := enc) (w := w) (spare := spare) (held := held) (base := base) (m := n) cs (by rw [hl, hc]; omega) fun f hf' => by
      obtain ⟨i, hi, rfl⟩ := List.mem_iff_getElem.1 hf'
      refine ⟨xs[i]'(by rw [hxl]; simpa using hi), ?_⟩
      rw [hx i _ (by simp)]
      exact List.getElem?_eq_getElem _
    exact ⟨y, hy⟩⟩

theorem opens_iso {P : Program} {t : TypeId} {α β : Type} {T : Ty α} {f : β → α} (h : Opens P t T) (hf : ∀ x, ∃ y, f y = x) : Opens P t (tIso T f) :=
  ⟨h.1, fun H enc w spare held base fuel cs x hx => by
    obtain ⟨y, hy⟩ := h.2 H enc w spare held base fuel cs x hx
    obtain ⟨z, rfl⟩ := hf y
    exact ⟨z, hy⟩⟩

theorem opens_arr {α : Type} {P : Program} {t e : TypeId} {m : Nat} {T : Ty α} (ht : P.underlying t = some (.array m e)) (hc : P.cellsOf t = m * T.n) (hT : Opens P e T) : Opens P t (tArr m T) :=
  ⟨hc, fun H enc w spare held base fuel cs x h => by
    obtain ⟨xs, n, _, _, hl, hxl, hx⟩ := DataW.trod_array ht h
    obtain ⟨ys, hyl, hys⟩ := choose_list (p := fun i y => T.rd w w.heap.size ((cs.drop (i * T.n)).take T.n) y) m fun i hi => by
      have h1 := hx i hi
      rw [List.getElem?_eq_getElem (by omega), hT.1] at h1
      exact hT.2 _ _ _ _ _ _ _ _ _ h1
    exact ⟨ys, by rw [hl, hc], hyl, hys⟩⟩

/-! ### A law's row out of its walk -/

theorem trodAll_below {P : Program} {H : Type} {enc : TypeId × Value → H} {W W' : World} (hl : laidOutB P = true) (hb : Below W.heap.size W W') :
    ∀ {ts : List TypeId} {vs : List Value} {ds : List (DataW H)} {ps : List MemPlace}, (∀ t ∈ ts, P.readableRec t = true ∧ t < P.types.size) →
      DataW.TrodAll enc P W 0 (fun _ => true) true ts vs ds ps → (∀ x ∈ ps, x.block < W.heap.size) → DataW.TrodAll enc P W' 0 (fun b => decide (b < W.heap.size)) true ts vs ds ps
  | [], _, _, _, _, h, _ => by
    obtain ⟨rfl, rfl, rfl⟩ := trodAll_nil h
    exact trodAll_mk0
  | t :: ts, _, _, _, hr, h, hlt => by
    obtain ⟨v, vs, d, ds, p, q, rfl, rfl, rfl, h1, h2⟩ := trodAll_cons h
    exact trodAll_cons_mk (Below.trod hl (hr t (List.mem_cons_self ..)).1 (hr t (List.mem_cons_self ..)).2 h1 hb (fun x hx => hlt x (List.mem_append.2 (.inl hx))))
      (trodAll_below hl hb (fun u hu => hr u (List.mem_cons_of_mem _ hu)) h2 (fun x hx => hlt x (List.mem_append.2 (.inr hx))))

/-- What a law's row asks of the end of the call, where the call answers true and leaves below the old heap's end all as it was. -/
theorem law_post {P : Program} {H : Type} {enc : TypeId × Value → H} {f : Func} {s : ChangeSpec} {W W' : World} {args : Array Value} {ds gs : List (DataW H)} {before : List MemPlace} {tb : TypeId}
    (hW : DataW.Whole enc P f.params.toList s.vars false W args.toList ds gs before) (hv : s.vars = []) (hs : s.fn H ds = { results := [.lit (.bool true)], args := ds })
    (hres : f.resultTypes = #[tb]) (htb : P.underlying tb = some .bool) (hl : laidOutB P = true) (hr : ∀ t ∈ f.params.toList, P.readableRec t = true ∧ t < P.types.size)
    (hb : Below W.heap.size W W') : s.post enc P f false true false false W args (.bool true) W' := by
  have hW' := hW
  obtain ⟨p, q, hA, hV, rfl, hfz, hnd⟩ := hW
  rw [hv] at hV
  obtain ⟨rfl, rfl⟩ := trodVars_none hV
  simp only [List.append_nil] at hW'
  have hlt : ∀ x ∈ p, x.block < W.heap.size := fun x hx => hW'.lt x hx
  refine ⟨ds, [], p, [], p, [], hW', ?_, ?_, ?_, hb.frame _, fun h => by cases h⟩
  · rw [List.append_nil, hs, hres]
    exact trodAll_mk1 (shut_bool htb true)
  · rw [List.append_nil, hs]
    exact trodAll_below hl hb hr hA hlt
  · rw [List.append_nil, hs, hv]
    rfl

/-- What a law's proof has of its arguments: the values, each with what is known of it. -/
structure Got (P : Program) (H : Type) (enc : TypeId × Value → H) (W : World) (t : TypeId) (v : Value) : Prop where
  ok : ∃ base, Value.okWide P W .any base t v
  reads : ∃ d ps, DataW.Trod enc P W 0 (fun _ => true) true t v d ps

inductive GotAll (P : Program) (H : Type) (enc : TypeId × Value → H) (W : World) : List TypeId → List Value → Prop
  | nil : GotAll P H enc W [] []
  | cons {t : TypeId} {ts : List TypeId} {v : Value} {vs : List Value} : Got P H enc W t v → GotAll P H enc W ts vs → GotAll P H enc W (t :: ts) (v :: vs)

theorem GotAll.cons_inv {P : Program} {H : Type} {enc : TypeId × Value → H} {W : World} {t : TypeId} {ts : List TypeId} {vs : List Value} (h : GotAll P H enc W (t :: ts) vs) :
    ∃ v us, vs = v :: us ∧ Got P H enc W t v ∧ GotAll P H enc W ts us := by
  cases h with
  | cons h1 h2 => exact ⟨_, _, rfl, h1, h2⟩

theorem GotAll.nil_inv {P : Program} {H : Type} {enc : TypeId × Value → H} {W : World} {vs : List Value} (h : GotAll P H enc W [] vs) : vs = [] := by
  cases h; rfl

theorem gotAll_of {P : Program} {H : Type} {enc : TypeId × Value → H} {W : World} {base : Nat} : ∀ {ts : List TypeId} {vs : List Value} {ds : List (DataW H)} {ps : List MemPlace},
    DataW.TrodAll enc P W 0 (fun _ => true) true ts vs ds ps → (∀ (j : Nat) t v, ts[j]? = some t → vs[j]? = some v → Value.okWide P W .any base t v) → GotAll P H enc W ts vs
  | [], _, _, _, h, _ => by
    obtain ⟨rfl, rfl, rfl⟩ := trodAll_nil h
    exact .nil
  | t :: ts, _, _, _, h, hok => by
    obtain ⟨v, vs, d, ds, p, q, rfl, rfl, rfl, h1, h2⟩ := trodAll_cons h
    exact .cons ⟨⟨base, hok 0 t v rfl rfl⟩, ⟨d, p, h1⟩⟩ (gotAll_of h2 fun j u x hu hx => hok (j + 1) u x hu hx)

/-- THE LAW's STEP: a walk from the opened arguments to 'true' gives the row's own form. -/
theorem law_lifted {C : Checked} {os : Os} {H : Type} {enc : TypeId × Value → H} {f : FuncId} {fn : Func} {s : ChangeSpec} {tb : TypeId}
    (own : ownKnob C.prog.godebug = none) (started : os.Started) (noInit : C.prog.inits.idxOf? f = none) (hfn : C.prog.funcs[f]? = some fn)
    (hv : s.vars = []) (hs : ∀ ds : List (DataW H), ds.length = fn.params.size → s.fn H ds = { results := [.lit (.bool true)], args := ds })
    (hres : fn.resultTypes = #[tb]) (htb : C.prog.underlying tb = some .bool) (hl : laidOutB C.prog = true) (hr : ∀ t ∈ fn.params.toList, C.prog.readableRec t = true ∧ t < C.prog.types.size)
    (witness : ∃ (w : World) (tape : Tape) (i : Input), w.os = os ∧ (w.forCall tape i).Shaped C.prog ∧ i.vars = [] ∧ Input.okWide C.prog (w.forCall tape i) .any w.heap.size f i ∧
      s.pre6 enc C.prog fn [] false (w.forCall tape i).memory i.args ∧ ({} : Assume).holds C.prog (lone (Frame.enter C.prog f i.args .normal) [] (w.forCall tape i)))
    (walk : ∀ (W : World) (args : Array Value), GotAll C.prog H enc W fn.params.toList args.toList → Calls C.prog f args W fun e W' => e = .returned (.bool true) ∧ Below W.heap.size W W') :
    ReturnsInHanded {} C os f .any (s.pre6 enc C.prog fn [] false) (s.post enc C.prog fn false true false false) := by
  refine returnsInHanded_of_change own started noInit hfn witness ?_
  intro W base args ds gs before hval hW _ _
  have hW' := hW
  obtain ⟨p, q, hA, hV, rfl, hfz, hnd⟩ := hW
  have hlen : ∀ {ts : List TypeId} {vs : List Value} {ds : List (DataW H)} {ps : List MemPlace}, DataW.TrodAll enc C.prog W 0 (fun _ => true) true ts vs ds ps → ds.length = ts.length := by
    intro ts
    induction ts with
    | nil => intro vs ds ps h; obtain ⟨_, rfl, _⟩ := trodAll_nil h; rfl
    | cons t ts ih => intro vs ds ps h; obtain ⟨v, vs, d, ds, p, q, rfl, rfl, rfl, h1, h2⟩ := trodAll_cons h; simp [ih h2]
  have g := gotAll_of (base := base) hA (fun j t v ht hv' => hval j t v (by simpa using ht) (by simpa using hv'))
  refine (walk W args g).mono fun e W' ⟨he, hb⟩ => ⟨_, he, ?_⟩
  exact law_post hW' hv (hs ds (by rw [hlen hA]; simp)) hres htb hl hr hb

theorem Got.agg {α : Type} {P : Program} {H : Type} {enc : TypeId × Value → H} {w : World} {t : TypeId} {fs : Array Field} {T : Ty α} {v : Value}
    (g : Got P H enc w t v) (ht : P.underlying t = some (.struct fs)) (hT : Opens P t T) : ∃ cs y, v = .agg cs ∧ T.rd w w.heap.size cs.toList y := by
  obtain ⟨⟨base, hv⟩, d, ps, h⟩ := g
  obtain ⟨cs, rfl, _⟩ := okWide_struct ht hv
  obtain ⟨n, hn⟩ := h
  obtain ⟨y, hy⟩ := hT.2 _ _ _ _ _ _ _ _ _ hn
  exact ⟨cs, y, rfl, hy⟩

theorem Got.arr {α : Type} {P : Program} {H : Type} {enc : TypeId × Value → H} {w : World} {t e : TypeId} {m : Nat} {T : Ty α} {v : Value}
    (g : Got P H enc w t v) (ht : P.underlying t = some (.array m e)) (hT : Opens P t T) : ∃ cs y, v = .agg cs ∧ T.rd w w.heap.size cs.toList y := by
  obtain ⟨⟨base, hv⟩, d, ps, h⟩ := g
  have hv' : ∃ cs, v = .agg cs := by
    simp only [Value.okWide, ht] at hv
    obtain ⟨cs, h1, _⟩ := hv
    exact ⟨cs, h1⟩
  obtain ⟨cs, rfl⟩ := hv'
  obtain ⟨n, hn⟩ := h
  obtain ⟨y, hy⟩ := hT.2 _ _ _ _ _ _ _ _ _ hn
  exact ⟨cs, y, rfl, hy⟩

/-- An argument of one cell that is no struct and no array. -/
theorem Got.one {α : Type} {P : Program} {H : Type} {enc : TypeId × Value → H} {w : World} {t : TypeId} {T : Ty α} {v : Value} (g : Got P H enc w t v) (hv : ∀ cs, v ≠ .agg cs) (hT : Opens P t T) :
    ∃ y, T.rd w w.heap.size [v] y := by
  obtain ⟨_, d, ps, n, hn⟩ := g
  obtain ⟨y, hy⟩ := hT.2 _ _ _ _ _ _ _ _ _ hn
  cases v with
  | agg cs => exact absurd rfl (hv cs)
  | _ => exact ⟨y, hy⟩

theorem Got.int {P : Program} {H : Type} {enc : TypeId × Value → H} {w : World} {t : TypeId} {v : Value} (g : Got P H enc w t v) (ht : P.underlying t = some (.int .i64)) (hc : P.cellsOf t = 1) :
    ∃ x, v = .int .i64 x ∧ -9223372036854775808 ≤ x ∧ x ≤ 9223372036854775807 := by
  obtain ⟨x, h, hb⟩ := g.one (fun cs e => by subst e; obtain ⟨⟨_, hv⟩, _⟩ := g; simp [Value.okWide, ht, Cell.okWide, Cell.ok] at hv) (opens_int ht hc)
  exact ⟨x, by simpa using h, hb⟩

theorem Got.u8 {P : Program} {H : Type} {enc : TypeId × Value → H} {w : World} {t : TypeId} {v : Value} (g : Got P H enc w t v) (ht : P.underlying t = some (.int .u8)) (hc : P.cellsOf t = 1) :
    ∃ x, v = .int .u8 x ∧ 0 ≤ x ∧ x ≤ 255 := by
  obtain ⟨x, h, hb⟩ := g.one (fun cs e => by subst e; obtain ⟨⟨_, hv⟩, _⟩ := g; simp [Value.okWide, ht, Cell.okWide, Cell.ok] at hv) (opens_u8 ht hc)
  exact ⟨x, by simpa using h, hb⟩

theorem Got.u16 {P : Program} {H : Type} {enc : TypeId × Value → H} {w : World} {t : TypeId} {v : Value} (g : Got P H enc w t v) (ht : P.underlying t = some (.int .u16)) (hc : P.cellsOf t = 1) :
    ∃ x, v = .int .u16 x ∧ 0 ≤ x ∧ x ≤ 65535 := by
  obtain ⟨x, h, hb⟩ := g.one (fun cs e => by subst e; obtain ⟨⟨_, hv⟩, _⟩ := g; simp [Value.okWide, ht, Cell.okWide, Cell.ok] at hv) (opens_u16 ht hc)
  exact ⟨x, by simpa using h, hb⟩

theorem Got.u32 {P : Program} {H : Type} {enc : TypeId × Value → H} {w : World} {t : TypeId} {v : Value} (g : Got P H enc w t v) (ht : P.underlying t = some (.int .u32)) (hc : P.cellsOf t = 1) :
    ∃ x, v = .int .u32 x ∧ 0 ≤ x ∧ x ≤ 4294967295 := by
  obtain ⟨x, h, hb⟩ := g.one (fun cs e => by subst e; obtain ⟨⟨_, hv⟩, _⟩ := g; simp [Value.okWide, ht, Cell.okWide, Cell.ok] at hv) (opens_u32 ht hc)
  exact ⟨x, by simpa using h, hb⟩

theorem Got.bool {P : Program} {H : Type} {enc : TypeId × Value → H} {w : World} {t : TypeId} {v : Value} (g : Got P H enc w t v) (ht : P.underlying t = some .bool) (hc : P.cellsOf t = 1) :
    ∃ x, v = .bool x := by
  obtain ⟨x, h⟩ := g.one (fun cs e => by subst e; obtain ⟨⟨_, hv⟩, _⟩ := g; simp [Value.okWide, ht, Cell.okWide, Cell.ok] at hv) (opens_bool ht hc)
  exact ⟨x, by simpa [tBool] using h⟩

theorem Got.str {P : Program} {H : Type} {enc : TypeId × Value → H} {w : World} {t : TypeId} {v : Value} (g : Got P H enc w t v) (ht : P.underlying t = some .string) (hc : P.cellsOf t = 1) :
    ∃ x, v = .string x ∧ x.size ≤ maxLen := by
  obtain ⟨x, h, hb⟩ := g.one (fun cs e => by subst e; obtain ⟨⟨_, hv⟩, _⟩ := g; simp [Value.okWide, ht, Cell.okWide, Cell.ok] at hv) (opens_str ht hc)
  exact ⟨x, by simpa using h, hb⟩

theorem Got.slice {α : Type} {P : Program} {H : Type} {enc : TypeId × Value → H} {w : World} {t e : TypeId} {v : Value} {T : Ty α} (g : Got P H enc w t v) (ht : P.underlying t = some (.slice e)) (hT : Opens P t (tSlice T)) :
    ∃ A cap xs, v = .slice A xs.length cap ∧ xs.length ≤ cap ∧ cap ≤ maxLen ∧ Elems T w w.heap.size A xs := by
  obtain ⟨xs, A, cap, h, hb⟩ := g.one (fun cs e => by subst e; obtain ⟨⟨_, hv⟩, _⟩ := g; simp [Value.okWide, ht, Cell.okWide, Cell.ok] at hv) hT
  exact ⟨A, cap, xs, by simpa using h, hb⟩

end Go.Proofs.YtojkpoikamcgkaaDoor
