/- Layer 12 (resolve): the scope of a hall. -/
import Derived.Test.YtecjhniomjmocaaResA
import Derived.BigRegion
import Derived.Deep.Cut
import Derived.Deep.RegionHeld3
import Derived.LoopN
namespace Go.Proofs.Ytecjhniomjmocaa
open Go.RowKit
set_option linter.unusedVariables false
set_option linter.unusedSimpArgs false
attribute [local go_sem] ext_cell ext_frozen lt_ext ext_drew

theorem IntMap.new_at {w : World} {b : Nat} (hb : b = w.heap.size) : IntMap (w.alloc (.map #[] 0)) b [] := hb ▸ IntMap.new w
theorem StrMap.new_at {w : World} {b : Nat} (hb : b = w.heap.size) : StrMap (w.alloc (.map #[] 0)) b [] := hb ▸ StrMap.new w
def kindsE : List (ByteArray × Value) := [(⟨#[115, 101, 97, 116]⟩, .int .i64 0), (⟨#[119, 104, 101, 101, 108]⟩, .int .i64 1), (⟨#[98, 101, 115, 105, 100, 101]⟩, .int .i64 2), (⟨#[115, 116, 97, 110, 100]⟩, .int .i64 3)]
/-- The maps of a scope: those of names behind a map of maps. -/
def Tables (w : World) (ma mn m4 m5 m6 : Nat) (Ea E4 E5 : List (ByteArray × Value)) : Prop :=
  ma < mn ∧ mn < m4 ∧ m4 < m5 ∧ m5 < m6 ∧ StrMap w ma Ea ∧ IntMap w mn [(4, .map (some m4)), (5, .map (some m5)), (6, .map (some m6))] ∧ StrMap w m4 E4 ∧ StrMap w m5 E5 ∧ StrMap w m6 kindsE
/-- The entries of the first k of some names. -/
def entsTo (L : List ByteArray) : Nat → List (ByteArray × Value)
  | 0 => []
  | k + 1 => match L[k]? with
    | none => entsTo L k
    | some s => addE (entsTo L k) s k
theorem entsTo_step {L : List ByteArray} {k : Nat} {s : ByteArray} (h : L[k]? = some s) : entsTo L (k + 1) = addE (entsTo L k) s k := by
  show (match L[k]? with | none => entsTo L k | some s => addE (entsTo L k) s k) = _
  rw [h]
theorem idxB_app {s : ByteArray} : ∀ {l : List ByteArray} {x : ByteArray}, idxB s (l ++ [x]) = match idxB s l with | some n => some n | none => if s = x then some l.length else none
  | [], x => by
    show (if s = x then some 0 else (none : Option Nat).map (· + 1)) = (if s = x then some 0 else none)
    rfl
  | y :: l, x => by
    show (if s = y then some 0 else (idxB s (l ++ [x])).map (· + 1)) = match (if s = y then some 0 else (idxB s l).map (· + 1)) with | some n => some n | none => if s = x then some (l.length + 1) else none
    by_cases h : s = y
    · rw [if_pos h, if_pos h]
    · rw [if_neg h, if_neg h, idxB_app]
      cases idxB s l with
      | some n => rfl
      | none =>
        by_cases hx : s = x
        · simp [hx]
        · simp [hx]
theorem entsTo_find (s : ByteArray) (L : List ByteArray) : ∀ k, findS s (entsTo L k) = (idxB s (L.take k)).map fun (n : Nat) => Value.int .i64 n
  | 0 => rfl
  | k + 1 => by
    have ih := entsTo_find s L k
    cases h : L[k]? with
    | none =>
      have hl := List.getElem?_eq_none_iff.1 h
      have e : entsTo L (k + 1) = entsTo L k := by
        show (match L[k]? with | none => entsTo L k | some s => addE (entsTo L k) s k) = _
        rw [h]
      rw [e, ih, List.take_of_length_le hl, List.take_of_length_le (by omega)]
    | some x =>
      have hlt := (List.getElem?_eq_some_iff.1 h).1
      have hlen : (L.take k).length = k := by rw [List.length_take]; omega
      rw [entsTo_step h, List.take_add_one, h]
      show findS s (addE (entsTo L k) x k) = (idxB s (L.take k ++ [x])).map _
      rw [idxB_app, hlen]
      unfold addE
      by_cases hx : findS x (entsTo L k) = none
      · rw [if_pos hx, findS_app hx, ih]
        by_cases e : s = x
        · subst e
          rw [entsTo_find s L k] at hx
          have : idxB s (L.take k) = none := by simpa using hx
          rw [this]
          simp
        · rw [if_neg e]
          cases idxB s (L.take k) with
          | some n => rfl
          | none => simp [e]
      · rw [if_neg hx, ih]
        cases hi : idxB s (L.take k) with
        | some n => rfl
        | none =>
          by_cases e : s = x
          · subst e
            rw [entsTo_find s L k, hi] at hx
            exact absurd rfl hx
          · simp [e]
theorem attrs_new : ∀ k : Fin 10, (findS (attrsN.getD k.1 noName) (entsTo attrsN k.1)).isNone = true := by decide
theorem attrs_at {k : Nat} (hk : k < 10) : ∃ s, attrsN[k]? = some s ∧ findS s (entsTo attrsN k) = none := by
  refine ⟨attrsN.getD k noName, ?_, ?_⟩
  · rw [List.getD_eq_getElem?_getD, List.getElem?_eq_getElem (show k < attrsN.length from hk)]; rfl
  · have := attrs_new ⟨k, hk⟩
    simpa using this
/-! ### the names of a hall -/
def blkN (l : Le) : List ByteArray := (l.2.2.1.map (·.1) ++ l.2.2.2.1.map (·.1)).map fun n => l.1 ++ dotB ++ n
def lvlsN (ls : List Le) : List ByteArray := ls.map (·.1)
def blksN (ls : List Le) : List ByteArray := ls.flatMap blkN
def offB (ls : List Le) (k : Nat) : Nat := (blksN (ls.take k)).length
theorem offB_step {ls : List Le} {k : Nat} {l : Le} (h : ls[k]? = some l) : offB ls (k + 1) = offB ls k + (blkN l).length := by
  unfold offB blksN
  rw [List.take_add_one, h]
  simp
theorem blk_at {ls : List Le} {k j : Nat} {l : Le} {n : ByteArray} (h : ls[k]? = some l) (hn : (blkN l)[j]? = some n) : (blksN ls)[offB ls k + j]? = some n := by
  have hk := (List.getElem?_eq_some_iff.1 h).1
  have e : blksN ls = blksN (ls.take k) ++ (blkN l ++ blksN (ls.drop (k + 1))) := by
    have e1 : ls = ls.take k ++ (l :: ls.drop (k + 1)) := by
      rw [← (List.getElem?_eq_some_iff.1 h).2, ← List.drop_eq_getElem_cons hk, List.take_append_drop]
    conv => lhs; rw [e1]
    unfold blksN
    simp
  have hj := (List.getElem?_eq_some_iff.1 hn).1
  rw [e]
  unfold offB
  rw [List.getElem?_append_right (by omega), Nat.add_sub_cancel_left, List.getElem?_append_left hj, hn]
theorem offB_le {ls : List Le} (hs : ∀ l ∈ ls, l.2.2.1.length + l.2.2.2.1.length ≤ 50) : ∀ k, offB ls k ≤ 50 * k
  | 0 => by simp [offB, blksN]
  | k + 1 => by
    have ih := offB_le hs k
    cases h : ls[k]? with
    | none =>
      have hl := List.getElem?_eq_none_iff.1 h
      have : offB ls (k + 1) = offB ls k := by
        unfold offB
        rw [List.take_of_length_le hl, List.take_of_length_le (by omega)]
      omega
    | some l =>
      rw [offB_step h]
      have h1 := hs l (List.mem_of_getElem? h)
      have : (blkN l).length = l.2.2.1.length + l.2.2.2.1.length := by unfold blkN; simp
      omega
theorem one_str : ∀ (w : World) (B : Nat) (cs : List Value) (x : ByteArray), tStr2.rd w B cs x → ∀ u ∈ cs, u.oneCell' = true := fun w B cs x h u hu => by
  obtain ⟨rfl, _⟩ := h
  simp at hu
  subst hu
  rfl
theorem pick_str {w : World} {B : Nat} {A : Option Addr} {xs : List ByteArray} (h : Elems tStr2 w B A xs) {k : Nat} (hk : k < xs.length) :
    ∃ b off x, A = some ⟨b, off, none⟩ ∧ b < B ∧ Hid (xs[k]? = some x) ∧ w.cell? ⟨b, off + k, none⟩ = some (.string x) ∧ x.size ≤ 1125899906842624 := by
  obtain ⟨b, off, x, cs, hA, hb, _, hx, _, ⟨rfl, h1⟩, hc⟩ := h.pick hk
  exact ⟨b, off, x, hA, hb, hx, by simpa [tStr2] using hc 0 _ rfl, h1⟩
/-- A scope under way: all but the two maps that are filled. -/
def ScIs (w X : World) (hc : Array Value) (sb ma mn m4 m5 m6 : Nat) : Prop :=
  Below w.heap.size w X ∧ Bk X w.heap.size hc 29 ∧ Bk X sb #[.map (some ma), .map (some mn)] 100 ∧ Bk X (sb + 1) #[.pointer (some ⟨sb, 0, none⟩)] 84 ∧ IntMap X mn [(4, .map (some m4)), (5, .map (some m5)), (6, .map (some m6))] ∧ StrMap X m6 kindsE ∧ StrMap X ma (entsTo attrsN 10)
theorem ScIs.only {w X Y : World} {hc : Array Value} {sb ma mn m4 m5 m6 : Nat} {S : Nat → Prop} (h : ScIs w X hc sb ma mn m4 m5 m6) (ho : Only S X Y) (hS : ∀ g, S g → w.heap.size < g ∧ g ≠ sb ∧ g ≠ sb + 1 ∧ g ≠ mn ∧ g ≠ m6 ∧ g ≠ ma) : ScIs w Y hc sb ma mn m4 m5 m6 :=
  ⟨h.1.trans (ho.to_below (fun g hg => by have := (hS g hg).1; omega) h.1.size), h.2.1.only ho (fun hg => by have := (hS _ hg).1; omega), h.2.2.1.only ho (fun hg => (hS _ hg).2.1 rfl), h.2.2.2.1.only ho (fun hg => (hS _ hg).2.2.1 rfl), h.2.2.2.2.1.only ho (fun hg => (hS _ hg).2.2.2.1 rfl), h.2.2.2.2.2.1.only ho (fun hg => (hS _ hg).2.2.2.2.1 rfl), h.2.2.2.2.2.2.only ho (fun hg => (hS _ hg).2.2.2.2.2 rfl)⟩
theorem ScIs.below {w X Y : World} {hc : Array Value} {sb ma mn m4 m5 m6 : Nat} (h : ScIs w X hc sb ma mn m4 m5 m6) (ho : Below X.heap.size X Y) : ScIs w Y hc sb ma mn m4 m5 m6 :=
  h.only (S := fun _ => False) (Only.of_below ho) (fun _ h => h.elim)
def attrsV : Array Value := (attrsN.map Value.string).toArray
theorem attrsV_at {k : Nat} {s : ByteArray} (h : attrsN[k]? = some s) : attrsV[k]? = some (.string s) := by
  unfold attrsV
  simp [h]

/-- A scope: its maps say the numbers of the names. -/
def ScopeAt (X : World) (sb : Nat) (L : Nm) : Prop :=
  ∃ ma mn m4 m5 m6, Bk X sb #[.map (some ma), .map (some mn)] 100 ∧ IntMap X mn [(4, .map (some m4)), (5, .map (some m5)), (6, .map (some m6))] ∧ StrMap X ma (entsTo attrsN 10) ∧ StrMap X m4 (entsTo L.1 L.1.length) ∧ StrMap X m5 (entsTo L.2 L.2.length) ∧ StrMap X m6 (entsTo kindsN 4)
theorem ScopeAt.below {X Y : World} {sb : Nat} {L : Nm} (h : ScopeAt X sb L) (hb : Below X.heap.size X Y) : ScopeAt Y sb L := by
  obtain ⟨ma, mn, m4, m5, m6, h1, h2, h3, h4, h5, h6⟩ := h
  exact ⟨ma, mn, m4, m5, m6, h1.below hb, h2.below hb, h3.below hb, h4.below hb, h5.below hb, h6.below hb⟩
theorem ScopeAt.lt {X : World} {sb : Nat} {L : Nm} (h : ScopeAt X sb L) : sb < X.heap.size := by
  obtain ⟨ma, mn, m4, m5, m6, h1, _⟩ := h
  exact h1.lt
def Scoped (w : World) (L : Nm) (e : Ending) (w' : World) : Prop := ∃ sb, e = .returned (.pointer (some ⟨sb, 0, none⟩)) ∧ ScopeAt w' sb L ∧ Below w.heap.size w w' ∧ w.heap.size ≤ sb
set_option maxRecDepth 100000 in
set_option maxHeartbeats 4000000 in
theorem scope_any (hn : ByteArray) (x y : Int) (A : Option Addr) (ls : List Le) (cap : Nat) (w : World) (B : Nat) (h : Elems tLe w B A ls) (hB : B ≤ w.heap.size) (hl : ls.length ≤ 10) (hs : ∀ l ∈ ls, l.2.2.1.length + l.2.2.2.1.length ≤ 50) :
    Calls Try.prog 26 #[.agg #[.string hn, .int .i64 x, .int .i64 y, .slice A ls.length cap]] w (Scoped w (lvlsN ls, blksN ls)) := by
  have HH := Lib.hid h
  have hmm := @run_makeMap Try.prog
  go_enter Try.func26, Try.ntmps26
  go_upto_region 2 with (first
    | (refine list_putI rfl _ _ _ _ rfl 3 97 Try.underlying98 Try.underlying3 rfl ((IntMap.new_at (by simp)).below (below_self _ _)) 4 rfl rfl (.map (some (w.heap.size + 1 + 1 + 1))) rfl ?_; intro wA hA oA; have HA : Hid (IntMap wA (w.heap.size + 1 + 1) [(4, .map (some (w.heap.size + 1 + 1 + 1)))] ∧ Only (fun g => g = w.heap.size + 1 + 1) _ wA) := Lib.hid (And.intro hA oA); clear hA oA)
    | (refine list_putI rfl _ _ _ _ rfl 3 97 Try.underlying98 Try.underlying3 rfl (HA.out.1.below (below_self _ _)) 5 rfl rfl (.map (some wA.heap.size)) rfl ?_; intro wB hB oB; have HB : Hid (IntMap wB (w.heap.size + 1 + 1) [(4, .map (some (w.heap.size + 1 + 1 + 1))), (5, .map (some wA.heap.size))] ∧ Only (fun g => g = w.heap.size + 1 + 1) _ wB) := Lib.hid (And.intro hB oB); clear hB oB)
    | (refine list_putS rfl _ _ _ _ rfl 9 3 Try.underlying97 Try.underlying9 rfl (StrMap.new wB) ⟨#[115, 101, 97, 116]⟩ rfl rfl (.int .i64 0) rfl ?_; intro wC hC oC; have HC : Hid (StrMap wC wB.heap.size [(⟨#[115, 101, 97, 116]⟩, .int .i64 0)] ∧ Only (fun g => g = wB.heap.size) _ wC) := Lib.hid (And.intro hC oC); clear hC oC)
    | (refine list_putS rfl _ _ _ _ rfl 9 3 Try.underlying97 Try.underlying9 rfl HC.out.1 ⟨#[119, 104, 101, 101, 108]⟩ rfl rfl (.int .i64 1) rfl ?_; intro wD hD oD; have HD : Hid (StrMap wD wB.heap.size [(⟨#[115, 101, 97, 116]⟩, .int .i64 0), (⟨#[119, 104, 101, 101, 108]⟩, .int .i64 1)] ∧ Only (fun g => g = wB.heap.size) wC wD) := Lib.hid (And.intro hD oD); clear hD oD)
    | (refine list_putS rfl _ _ _ _ rfl 9 3 Try.underlying97 Try.underlying9 rfl HD.out.1 ⟨#[98, 101, 115, 105, 100, 101]⟩ rfl rfl (.int .i64 2) rfl ?_; intro wE hE oE; have HE : Hid (StrMap wE wB.heap.size [(⟨#[115, 101, 97, 116]⟩, .int .i64 0), (⟨#[119, 104, 101, 101, 108]⟩, .int .i64 1), (⟨#[98, 101, 115, 105, 100, 101]⟩, .int .i64 2)] ∧ Only (fun g => g = wB.heap.size) wD wE) := Lib.hid (And.intro hE oE); clear hE oE)
    | (refine list_putS rfl _ _ _ _ rfl 9 3 Try.underlying97 Try.underlying9 rfl HE.out.1 ⟨#[115, 116, 97, 110, 100]⟩ rfl rfl (.int .i64 3) rfl ?_; intro wF hF oF; have HF : Hid (StrMap wF wB.heap.size kindsE ∧ Only (fun g => g = wB.heap.size) (wB.alloc (.map #[] 0)) wF) := Lib.hid (And.intro hF (((HC.out.2.trans HD.out.2).trans HE.out.2).trans oF)); clear hF oF HC HD HE)
    | (refine list_putI rfl _ _ _ _ rfl 3 97 Try.underlying98 Try.underlying3 rfl ((HB.out.1.below (below_self _ _)).only HF.out.2 (by have := HB.out.1.lt; omega)) 6 rfl rfl (.map (some wB.heap.size)) rfl ?_; intro wG hG oG; have HG : Hid (IntMap wG (w.heap.size + 1 + 1) [(4, .map (some (w.heap.size + 1 + 1 + 1))), (5, .map (some wA.heap.size)), (6, .map (some wB.heap.size))] ∧ Only (fun g => g = w.heap.size + 1 + 1) wF wG) := Lib.hid (And.intro hG oG); clear hG oG))
  have hs1 : w.heap.size + 4 ≤ wA.heap.size := by have := HA.out.2.size; simpa using this
  have hs2 : wA.heap.size + 1 ≤ wB.heap.size := by have := HB.out.2.size; simpa using this
  have hs3 : wB.heap.size + 1 ≤ wF.heap.size := by have := HF.out.2.size; simpa using this
  have hs4 : wF.heap.size ≤ wG.heap.size := HG.out.2.size
  have hlow : Below w.heap.size w wG := ((((((Below.alloc0 (Below.alloc0 (Below.alloc0 (below_self w _) _) _) _).trans (HA.out.2.to_below (fun g hg => by omega) (by simp; omega))).alloc (by omega) _).trans (HB.out.2.to_below (fun g hg => by omega) (by simp; omega))).alloc (by omega) _).trans (HF.out.2.to_below (fun g hg => by omega) (by simp; omega))).trans (HG.out.2.to_below (fun g hg => by omega) (by omega))
  have bh := (((((((((Bk.new w #[.string hn, .int .i64 x, .int .i64 y, .slice A ls.length cap] 29).alloc (.map #[] 0)).alloc (.map #[] 0)).alloc (.map #[] 0)).only HA.out.2 (by omega)).alloc (.map #[] 0)).only HB.out.2 (by omega)).alloc (.map #[] 0)).only HF.out.2 (by omega)).only HG.out.2 (by omega)
  have tA : StrMap wG (w.heap.size + 1) [] := ((((((((StrMap.new_at (b := w.heap.size + 1) (by simp)).below (below_self _ _)).below (below_self _ _)).only HA.out.2 (by omega)).below (below_self _ _)).only HB.out.2 (by omega)).below (below_self _ _)).only HF.out.2 (by omega)).only HG.out.2 (by omega)
  have t4 : StrMap wG (w.heap.size + 1 + 1 + 1) [] := ((((((StrMap.new_at (b := w.heap.size + 1 + 1 + 1) (by simp)).only HA.out.2 (by omega)).below (below_self _ _)).only HB.out.2 (by omega)).below (below_self _ _)).only HF.out.2 (by omega)).only HG.out.2 (by omega)
  have t5 : StrMap wG wA.heap.size [] := ((((StrMap.new wA).only HB.out.2 (by omega)).below (below_self _ _)).only HF.out.2 (by omega)).only HG.out.2 (by omega)
  have t6 : StrMap wG wB.heap.size kindsE := HF.out.1.only HG.out.2 (by omega)
  have tn := HG.out.1
  refine forget (fun X => Below w.heap.size w X ∧ Bk X w.heap.size #[.string hn, .int .i64 x, .int .i64 y, .slice A ls.length cap] 29 ∧ Bk X wG.heap.size #[.map (some (w.heap.size + 1)), .map (some (w.heap.size + 1 + 1))] 100 ∧ Bk X (wG.heap.size + 1) #[.pointer (some ⟨wG.heap.size, 0, none⟩)] 84 ∧ Tables X (w.heap.size + 1) (w.heap.size + 1 + 1) (w.heap.size + 1 + 1 + 1) wA.heap.size wB.heap.size [] [] [])
    ⟨(hlow.alloc (by omega) _).alloc (by simp; omega) _, (bh.alloc _).alloc _, (Bk.new _ _ _).alloc _, bk_new_at _ _ _ _ (by simp), by omega, by omega, by omega, by omega, (tA.below (below_self _ _)).below (below_self _ _), (tn.below (below_self _ _)).below (below_self _ _), (t4.below (below_self _ _)).below (below_self _ _), (t5.below (below_self _ _)).below (below_self _ _), (t6.below (below_self _ _)).below (below_self _ _)⟩ ?_
  have hs5 : wB.heap.size + 1 ≤ wG.heap.size := by omega
  clear hlow bh tA t4 t5 t6 tn HA HB HF HG hs3 hs4 hmm
  generalize wA.heap.size = m5 at *
  generalize wB.heap.size = m6 at *
  generalize wG.heap.size = sb at *
  rintro X ⟨hw, bh, bs, bv, T⟩
  clear h
  have HX := Lib.hid (And.intro hw (And.intro bh (And.intro bs (And.intro bv T))))
  clear hw bh bs bv T
  go_upto_region 3 with (fail)
  refine forget (fun Y => Below X.heap.size X Y ∧ Bk Y X.heap.size attrsV 9) ⟨below_self _ _, Bk.new _ _ _⟩ ?_
  rintro X1 ⟨hw, br⟩
  obtain ⟨rb, hrb⟩ : ∃ b, X.heap.size = b := ⟨_, rfl⟩
  rw [hrb]
  have hsb := HX.out.2.2.2.1.lt
  have HX1 : Hid (Below w.heap.size w X1 ∧ Bk X1 w.heap.size #[.string hn, .int .i64 x, .int .i64 y, .slice A ls.length cap] 29 ∧ Bk X1 sb #[.map (some (w.heap.size + 1)), .map (some (w.heap.size + 1 + 1))] 100 ∧ Bk X1 (sb + 1) #[.pointer (some ⟨sb, 0, none⟩)] 84 ∧ Tables X1 (w.heap.size + 1) (w.heap.size + 1 + 1) (w.heap.size + 1 + 1 + 1) m5 m6 [] [] [] ∧ Bk X1 rb attrsV 9) :=
    Lib.hid ⟨Below.trans0 HX.out.1 hw, HX.out.2.1.below hw, HX.out.2.2.1.below hw, HX.out.2.2.2.1.below hw, ⟨HX.out.2.2.2.2.1, HX.out.2.2.2.2.2.1, HX.out.2.2.2.2.2.2.1, HX.out.2.2.2.2.2.2.2.1, HX.out.2.2.2.2.2.2.2.2.1.below hw, HX.out.2.2.2.2.2.2.2.2.2.1.below hw, HX.out.2.2.2.2.2.2.2.2.2.2.1.below hw, HX.out.2.2.2.2.2.2.2.2.2.2.2.1.below hw, HX.out.2.2.2.2.2.2.2.2.2.2.2.2.below hw⟩, hrb ▸ br⟩
  have hrs : sb + 2 ≤ rb := by omega
  clear hw br HX hsb hrb
  go_wp2_with fail
  go_loopw [4, 5, 28] (fun _ _ i wr => ∃ k : Nat, k ≤ 10 ∧ i = .int .i64 k ∧ StrMap wr (w.heap.size + 1) (entsTo attrsN k) ∧ Only (fun g => g = w.heap.size + 1) X1 wr) (fun _ _ i _ => 10 - (intOf i).toNat)
  case atStart => exact ⟨0, by omega, rfl, HX1.out.2.2.2.2.1.2.2.2.2.1, Only.refl _ _⟩
  case round =>
    obtain ⟨k, hk, rfl, hm, ho⟩ := hrel
    have bs := HX1.out.2.2.1.only ho (by omega)
    have bv := HX1.out.2.2.2.1.only ho (by omega)
    have br := HX1.out.2.2.2.2.2.only ho (by omega)
    have cs := bs.cell
    have cv := bv.cell
    have lr := br.lt
    have ls9 := bs.lt
    have lv := bv.lt
    by_cases hlt : k < 10
    · obtain ⟨s, hs1, hs2⟩ := attrs_at hlt
      have cr : wr.cell? ⟨rb, k, none⟩ = some (.string s) := (br.cell k).trans (attrsV_at hs1)
      have HM := Lib.hid (And.intro hm (And.intro ho hs2))
      have hk10 : (k : Int) < 10 := by omega
      have Hst := Lib.hid (entsTo_step hs1)
      have Hst2 : Hid (addE (entsTo attrsN k) s k = entsTo attrsN k ++ [(s, .int .i64 k)]) := Lib.hid (by unfold addE; rw [if_pos hs2])
      clear bs bv br hm ho hs1 hs2
      go_wp2_with (at_mapUpdate; refine list_updS rfl _ _ _ _ rfl 9 3 Try.underlying97 Try.underlying9 rfl HM.out.1 s rfl HM.out.2.2 (.int .i64 k) rfl ?_; intro w2 hm2 ho2; have HQ := Lib.hid (And.intro hm2 ho2); clear hm2 ho2)
      go_roundw
      case rel => exact ⟨k + 1, by omega, by go_num, by rw [Hst.out, Hst2.out]; exact HQ.out.1, HM.out.2.1.trans HQ.out.2⟩
      case measure => simp [intOf]; omega
    · obtain rfl : k = 10 := by omega
      have h10 : ((10 : Nat) : Int) = 10 := rfl
      rw [h10]
      clear h10
      have hSc : ScIs w wr #[.string hn, .int .i64 x, .int .i64 y, .slice A ls.length cap] sb (w.heap.size + 1) (w.heap.size + 1 + 1) (w.heap.size + 1 + 1 + 1) m5 m6 :=
        ⟨HX1.out.1.trans (ho.to_below (fun g hg => by omega) HX1.out.1.size), HX1.out.2.1.only ho (by omega), bs, bv, HX1.out.2.2.2.2.1.2.2.2.2.2.1.only ho (by omega), HX1.out.2.2.2.2.1.2.2.2.2.2.2.2.2.only ho (by omega), hm⟩
      have h4 : StrMap wr (w.heap.size + 1 + 1 + 1) [] := HX1.out.2.2.2.2.1.2.2.2.2.2.2.1.only ho (by omega)
      have h5 : StrMap wr m5 [] := HX1.out.2.2.2.2.1.2.2.2.2.2.2.2.1.only ho (by omega)
      clear hm ho bs bv br cs cv lr ls9 lv HX1 hlt hk
      refine forget (fun Y => ScIs w Y #[.string hn, .int .i64 x, .int .i64 y, .slice A ls.length cap] sb (w.heap.size + 1) (w.heap.size + 1 + 1) (w.heap.size + 1 + 1 + 1) m5 m6 ∧ StrMap Y (w.heap.size + 1 + 1 + 1) [] ∧ StrMap Y m5 []) ⟨hSc, h4, h5⟩ ?_
      clear hSc h4 h5
      rintro X2 ⟨hSc, h4, h5⟩
      have ch := hSc.2.1.cell
      have lh := hSc.2.1.lt
      have hz := hSc.1.size
      have hsx := hSc.2.2.2.1.lt
      have HS := Lib.hid (And.intro hSc (And.intro h4 h5))
      have hmf : ∀ (fn : Fn) (first cap : Array Value) (w : World), (Instr.makeFunc fn first cap).run Try.prog w = .ok (.func fn first cap) w := fun _ _ _ _ => rfl
      clear hSc h4 h5
      go_wp2_with fail
      clear hmf
      obtain ⟨lv, hlv⟩ : ∃ l, lvlsN ls = l := ⟨_, rfl⟩
      obtain ⟨bk, hbk⟩ : ∃ l, blksN ls = l := ⟨_, rfl⟩
      have HL := Lib.hid (And.intro hlv hbk)
      clear hlv hbk ch lh
      go_loopw [6, 8, 9, 10, 12, 14, 16, 44] (fun bl _ _ _ _ _ _ i wr => ∃ k : Nat, k ≤ ls.length ∧ i = .int .i64 k ∧ bl = .int .i64 (offB ls k) ∧ StrMap wr (w.heap.size + 1 + 1 + 1) (entsTo lv k) ∧ StrMap wr m5 (entsTo bk (offB ls k)) ∧ Only (fun g => g = w.heap.size + 1 + 1 + 1 ∨ g = m5) X2 wr) (fun _ _ _ _ _ _ _ i _ => ls.length - (intOf i).toNat)
      case atStart => exact ⟨0, by omega, rfl, rfl, HS.out.2.1, HS.out.2.2, Only.refl _ _⟩
      case round =>
        obtain ⟨k, hk, rfl, rfl, h4, h5, ho⟩ := hrel
        have hSc := HS.out.1.only ho (fun g hg => by omega)
        by_cases hlt : k < ls.length
        · have hE := HH.out.keep (hSc.1.mono hB) (Nat.le_refl _)
          obtain ⟨b, off, nm, ht, AB, bs, cb, AA, ars, ca, q1, q2, q3, att, rfl, hb, Hk, g0, g1, g2, g3, g4, g5, g6, g7, gnm, gl1, gl2, HEb, HEa⟩ := pick_le hE hlt
          have hkl : (k : Int) < (ls.length : Int) := by omega
          have hzr := ho.size
          have bw : b < wr.heap.size := by omega
          have hll : bs.length + ars.length ≤ 50 := hs _ (List.mem_of_getElem? Hk.out)
          have hof := offB_le hs k
          have Hst : Hid (addE (entsTo lv k) nm k = entsTo lv (k + 1)) := Lib.hid (by rw [entsTo_step]; rw [← HL.out.1]; unfold lvlsN; rw [List.getElem?_map, Hk.out]; rfl)
          have HO := Lib.hid (And.intro hSc (And.intro h4 (And.intro h5 ho)))
          have hBw : B ≤ wr.heap.size := by omega
          clear hSc h4 h5 ho hE
          go_upto_region 13 with (go_at_call 33; refine (first_any 4 k nm (sb + 1) sb _ _ _ _ _ _ (HO.out.1.below (below_self _ _)).2.2.2.1 (HO.out.1.below (below_self _ _)).2.2.1 (HO.out.1.below (below_self _ _)).2.2.2.2.1 rfl (HO.out.2.1.below (below_self _ _))).mono ?_; rintro e w1 ⟨rfl, hm1, ho1⟩; rw [Hst.out] at hm1; have HQ := Lib.hid (And.intro hm1 ho1); clear hm1 ho1)
          have hz1 := HQ.out.2.size
          simp at hz1
          refine forget (fun Y => ScIs w Y #[.string hn, .int .i64 x, .int .i64 y, .slice (some ⟨b, off, none⟩) ls.length cap] sb (w.heap.size + 1) (w.heap.size + 1 + 1) (w.heap.size + 1 + 1 + 1) m5 m6 ∧ StrMap Y (w.heap.size + 1 + 1 + 1) (entsTo lv (k + 1)) ∧ StrMap Y m5 (entsTo bk (offB ls k)) ∧ Only (fun g => g = w.heap.size + 1 + 1 + 1 ∨ g = m5) X2 Y ∧ Bk Y wr.heap.size #[.string nm, .int .i64 ht, .slice AB bs.length cb, .slice AA ars.length ca, .slice q1.1 q1.2.1 q1.2.2, .slice q2.1 q2.2.1 q2.2.2, .slice q3.1 q3.2.1 q3.2.2, .int .i64 att] 70 ∧ Elems tBl Y B AB bs ∧ Elems tAr Y B AA ars)
            ⟨(HO.out.1.below (below_self _ _)).only HQ.out.2 (fun g hg => by omega), HQ.out.1, (HO.out.2.2.1.below (below_self _ _)).only HQ.out.2 (by omega), (HO.out.2.2.2.alloc _).trans (HQ.out.2.mono fun g hg => .inl hg), (Bk.new wr _ _).only HQ.out.2 (by omega), HEb.out.keep (((Below.refl B wr).alloc hBw _).trans (HQ.out.2.to_below (fun g hg => by omega) (by simp; omega))) (Nat.le_refl _), HEa.out.keep (((Below.refl B wr).alloc hBw _).trans (HQ.out.2.to_below (fun g hg => by omega) (by simp; omega))) (Nat.le_refl _)⟩ ?_
          clear HO HQ HEb HEa g0 g1 g2 g3 g4 g5 g6 g7 hz1 bw hBw
          generalize hlb : wr.heap.size = lb at *
          rintro Y1 ⟨hSc, h4, h5, ho, bl, hEb, hEa⟩
          have cl := bl.cell
          have ll := bl.lt
          have HY := Lib.hid (And.intro hSc (And.intro h4 (And.intro h5 (And.intro ho (And.intro bl (And.intro hEb hEa))))))
          have hzy := ho.size
          clear hSc h4 h5 ho bl hEb hEa
          go_wp2_with fail
          go_loopw [10, 12, 57] (fun v _ i wr => ∃ j : Nat, j ≤ bs.length ∧ i = .int .i64 j ∧ OwnL tStr2 9 wr Y1.heap.size 0 v ((bs.take j).map (·.1)) ∧ Below Y1.heap.size Y1 wr) (fun _ _ i _ => bs.length - (intOf i).toNat)
          case atStart => exact ⟨0, by omega, rfl, OwnL.nil, Below.refl _ _⟩
          case round =>
            obtain ⟨j, hj, rfl, hown, hbw⟩ := hrel
            obtain ⟨A7, c7, rfl, hc7, hm7⟩ := hown.form
            have hm7' : c7 ≤ 9223372036854775807 := by unfold maxLen at hm7; omega
            have hzq := hbw.size
            have cq := (HY.out.2.2.2.2.1.below hbw).cell
            have lq := (HY.out.2.2.2.2.1.below hbw).lt
            by_cases hlj : j < bs.length
            · have hE3 := (HY.out.2.2.2.2.2.1).keep (hbw.mono (show B ≤ Y1.heap.size by omega)) (Nat.le_refl _)
              obtain ⟨b9, off9, nm9, hd9, at9, rfl, hb9', Hj, e0, e1, e2, gnm9⟩ := pick_bl hE3 hlj
              have hjl : (j : Int) < (bs.length : Int) := by omega
              have hb9 : b9 < wr.heap.size := by omega
              obtain ⟨q7, hq7⟩ : ∃ q, (bs.take j).map (·.1) = q := ⟨_, rfl⟩
              have hq7l : q7.length ≤ 50 := by rw [← hq7]; simp; omega
              have Hnx : Hid ((bs.take (j + 1)).map (·.1) = q7 ++ [nm9]) := Lib.hid (by rw [List.take_add_one, Hj.out, ← hq7]; simp)
              rw [hq7] at hown hc7 ⊢
              have HW := Lib.hid (And.intro hown hbw)
              clear hown hbw hE3 hq7
              go_wp2_with (at_builtin; refine list_appendL (T := tStr2) (base := Y1.heap.size) (B := 0) (qs := q7) (v := .slice A7 q7.length c7) rfl _ _ _ rfl 16 Try.underlying101 (by kernel_rfl) (by decide) one_str rfl ((HW.out.1.below (below_self _ _) (by omega)).below (below_self _ _) (by omega)) (some ⟨wr.heap.size + 1, 0, none⟩) 1 1 [nm9] [[.string nm9]] rfl rfl rfl (fun i a1 a2 => by obtain rfl : i = 0 := (by simp at a1; omega); exact ⟨rfl, gnm9⟩) (lies_bk (bk_new_at (wr.alloc (.cells #[.string nm9, .slice hd9.1 hd9.2.1 hd9.2.2, .int .i64 at9] 73)) (wr.heap.size + 1) #[.string nm9] 9 (by simp)) 1) (by unfold maxLen; omega) (by omega) (by simp; omega) (by omega) ?_; intro A8 c8 w8 hown8 hbel8 hg8 hd8; have H8 := Lib.hid (And.intro hown8 hbel8); clear hown8 hbel8 hg8 hd8)
              go_roundw
              case rel => exact ⟨j + 1, by omega, by go_num, by rw [Hnx.out]; exact H8.out.1, ((HW.out.2.alloc hzq _).alloc (by simp; omega) _).trans H8.out.2⟩
              case measure => simp [intOf]; omega
            · obtain rfl : j = bs.length := by omega
              rw [List.take_length] at hown hc7 ⊢
              have HR := Lib.hid (And.intro hown hbw)
              clear hown hbw hlj hj hm7 hc7
              go_wp2_with fail
              go_loopw [10, 14, 70] (fun v _ i wr => ∃ j : Nat, j ≤ ars.length ∧ i = .int .i64 j ∧ OwnL tStr2 9 wr Y1.heap.size 0 v (bs.map (·.1) ++ (ars.take j).map (·.1)) ∧ Below Y1.heap.size Y1 wr) (fun _ _ i _ => ars.length - (intOf i).toNat)
              case atStart => exact ⟨0, by omega, rfl, by simpa using HR.out.1, HR.out.2⟩
              case round =>
                obtain ⟨j, hj, rfl, hown, hbw⟩ := hrel
                obtain ⟨A7, c7, rfl, hc7, hm7⟩ := hown.form
                have hm7' : c7 ≤ 9223372036854775807 := by unfold maxLen at hm7; omega
                have hzq := hbw.size
                have cq := (HY.out.2.2.2.2.1.below hbw).cell
                have lq := (HY.out.2.2.2.2.1.below hbw).lt
                by_cases hlj : j < ars.length
                · have hE3 := (HY.out.2.2.2.2.2.2).keep (hbw.mono (show B ≤ Y1.heap.size by omega)) (Nat.le_refl _)
                  obtain ⟨b9, off9, nm9, x1, x2, x3, x4, hd9, at9, rfl, hb9', Hj, e0, e1, e2, e3, e4, e5, e6, gnm9⟩ := pick_ar hE3 hlj
                  have hjl : (j : Int) < (ars.length : Int) := by omega
                  have hb9 : b9 < wr.heap.size := by omega
                  obtain ⟨q7, hq7⟩ : ∃ q, bs.map (·.1) ++ (ars.take j).map (·.1) = q := ⟨_, rfl⟩
                  have hq7l : q7.length ≤ 50 := by rw [← hq7]; simp; omega
                  have Hnx : Hid (bs.map (·.1) ++ (ars.take (j + 1)).map (·.1) = q7 ++ [nm9]) := Lib.hid (by rw [List.take_add_one, Hj.out, ← hq7]; simp)
                  rw [hq7] at hown hc7 ⊢
                  have HW := Lib.hid (And.intro hown hbw)
                  clear hown hbw hE3 hq7
                  go_wp2_with (at_builtin; refine list_appendL (T := tStr2) (base := Y1.heap.size) (B := 0) (qs := q7) (v := .slice A7 q7.length c7) rfl _ _ _ rfl 16 Try.underlying101 (by kernel_rfl) (by decide) one_str rfl ((HW.out.1.below (below_self _ _) (by omega)).below (below_self _ _) (by omega)) (some ⟨wr.heap.size + 1, 0, none⟩) 1 1 [nm9] [[.string nm9]] rfl rfl rfl (fun i a1 a2 => by obtain rfl : i = 0 := (by simp at a1; omega); exact ⟨rfl, gnm9⟩) (lies_bk (bk_new_at (wr.alloc (.cells #[.string nm9, .int .i64 x1, .int .i64 x2, .int .i64 x3, .int .i64 x4, .int .i64 hd9, .int .i64 at9] 77)) (wr.heap.size + 1) #[.string nm9] 9 (by simp)) 1) (by unfold maxLen; omega) (by omega) (by simp; omega) (by omega) ?_; intro A8 c8 w8 hown8 hbel8 hg8 hd8; have H8 := Lib.hid (And.intro hown8 hbel8); clear hown8 hbel8 hg8 hd8)
                  go_roundw
                  case rel => exact ⟨j + 1, by omega, by go_num, by rw [Hnx.out]; exact H8.out.1, ((HW.out.2.alloc hzq _).alloc (by simp; omega) _).trans H8.out.2⟩
                  case measure => simp [intOf]; omega
                · obtain rfl : j = ars.length := by omega
                  rw [List.take_length] at hown hc7 ⊢
                  obtain ⟨N, hN⟩ : ∃ q, bs.map (·.1) ++ ars.map (·.1) = q := ⟨_, rfl⟩
                  have hN50 : N.length ≤ 50 := by rw [← hN]; simp; omega
                  have HNb : Hid (blkN (nm, ht, bs, ars, q1, q2, q3, att) = N.map fun n => nm ++ dotB ++ n) := Lib.hid (by unfold blkN; rw [← hN])
                  rw [hN] at hown hc7 ⊢
                  refine forget (fun Y => OwnL tStr2 9 Y Y1.heap.size 0 (.slice A7 N.length c7) N ∧ Below Y1.heap.size Y1 Y) ⟨hown, hbw⟩ ?_
                  clear hown hbw hlj hj hm7 hc7 cq lq hzq HR hN
                  rintro Y3 ⟨hown, hbw⟩
                  have hzq := hbw.size
                  have H3 := Lib.hid (And.intro hown (And.intro (HY.out.1.below hbw) (And.intro (HY.out.2.1.below hbw) (And.intro (HY.out.2.2.1.below hbw) (And.intro (HY.out.2.2.2.1.trans (Only.of_below hbw)) (HY.out.2.2.2.2.1.below hbw))))))
                  clear hown hbw HY
                  go_wp2_with fail
                  go_loopw [6, 16, 82] (fun bl _ i wr => ∃ j : Nat, j ≤ N.length ∧ i = .int .i64 j ∧ bl = .int .i64 ((offB ls k + j : Nat) : Int) ∧ StrMap wr m5 (entsTo bk (offB ls k + j)) ∧ Only (fun g => g = m5) Y3 wr) (fun _ _ i _ => N.length - (intOf i).toNat)
                  case atStart => exact ⟨0, by omega, rfl, rfl, H3.out.2.2.2.1, Only.refl _ _⟩
                  case round =>
                    obtain ⟨j, hj, rfl, rfl, hm, ho⟩ := hrel
                    have hown := H3.out.1.only ho (fun g hg => by omega) (by omega) (fun g hg h => by have := (H3.out.1.lt g hg).1; omega)
                    have cq := (H3.out.2.2.2.2.2.only ho (by omega)).cell
                    have lq := (H3.out.2.2.2.2.2.only ho (by omega)).lt
                    have hzo := ho.size
                    have HM := Lib.hid (And.intro hm (And.intro ho (H3.out.2.1.only ho (fun g hg => by omega))))
                    by_cases hlj : j < N.length
                    · obtain ⟨b9, off9, s9, rfl, hb9, Hj, e0, gs9⟩ := pick_str (hown.elems (B2 := wr.heap.size) (by omega) (Nat.le_refl _)) hlj
                      have hjl : (j : Int) < (N.length : Int) := by omega
                      have Hnx : Hid (addE (entsTo bk (offB ls k + j)) (nm ++ dotB ++ s9) ((offB ls k : Int) + (j : Int)) = entsTo bk (offB ls k + (j + 1))) := Lib.hid (by
                        rw [show ((offB ls k : Int) + (j : Int)) = ((offB ls k + j : Nat) : Int) by omega]
                        rw [show offB ls k + (j + 1) = (offB ls k + j) + 1 by omega, entsTo_step]
                        rw [← HL.out.2]
                        refine blk_at Hk.out ?_
                        rw [HNb.out, List.getElem?_map, Hj.out]
                        rfl)
                      clear hm ho hown
                      go_wp2_with (go_at_call 33; refine (first_any 5 ((offB ls k : Int) + (j : Int)) (nm ++ dotB ++ s9) (sb + 1) sb _ _ _ _ _ _ HM.out.2.2.2.2.2.1 HM.out.2.2.2.2.1 HM.out.2.2.2.2.2.2.1 rfl HM.out.1).mono ?_; rintro e w1 ⟨rfl, hm1, ho1⟩; rw [Hnx.out] at hm1; have HQ := Lib.hid (And.intro hm1 ho1); clear hm1 ho1)
                      go_roundw
                      case rel => exact ⟨j + 1, by omega, by go_num, by go_num, HQ.out.1, HM.out.2.1.trans HQ.out.2⟩
                      case measure => simp [intOf]; omega
                    · obtain rfl : j = N.length := by omega
                      have Hoff : Hid (offB ls (k + 1) = offB ls k + N.length) := Lib.hid (by rw [offB_step Hk.out, HNb.out, List.length_map])
                      clear hm ho hown
                      go_wp2_with fail
                      go_roundw
                      case rel => exact ⟨k + 1, by omega, by go_num, by rw [Hoff.out], H3.out.2.2.1.only HM.out.2.1 (by omega), by rw [Hoff.out]; exact HM.out.1, H3.out.2.2.2.2.1.trans (HM.out.2.1.mono fun g hg => .inr hg)⟩
                      case measure => simp [intOf]; omega
        · obtain rfl : k = ls.length := by omega
          have HO := Lib.hid (And.intro hSc (And.intro h4 h5))
          have cv := hSc.2.2.2.1.cell
          have lv := hSc.2.2.2.1.lt
          clear hSc h4 h5 ho
          go_wp2_with fail
          go_ret
          refine ⟨sb, rfl, ⟨_, _, _, _, _, HO.out.1.2.2.1, HO.out.1.2.2.2.2.1, HO.out.1.2.2.2.2.2.2, ?_, ?_, HO.out.1.2.2.2.2.2.1⟩, HO.out.1.1, by omega⟩
          · have e : (lvlsN ls).length = ls.length := by unfold lvlsN; simp
            show StrMap _ _ (entsTo (lvlsN ls) (lvlsN ls).length)
            rw [e, HL.out.1]
            exact HO.out.2.1
          · have e : (blksN ls).length = offB ls ls.length := by unfold offB; rw [List.take_length]
            show StrMap _ _ (entsTo (blksN ls) (blksN ls).length)
            rw [e, HL.out.2]
            exact HO.out.2.2
end Go.Proofs.Ytecjhniomjmocaa
