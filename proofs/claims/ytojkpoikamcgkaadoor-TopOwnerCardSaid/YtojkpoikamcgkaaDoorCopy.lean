/- Slices that a call copies by append: what the copy reads as. -/
import Derived.Test.YtojkpoikamcgkaaDoorWild
import Derived.Test.YtojkpoikamcgkaaDoorMake
import Derived.Maps.AppendAt
import Derived.Deep.AppendLies
import Derived.Deep.Upon
import Derived.RegionTactic
import Derived.OwnWalk
namespace Go.Proofs.YtojkpoikamcgkaaDoor
open Go.RowKit
set_option linter.unusedVariables false

theorem flatten_len {α : Type} {n : Nat} : ∀ (css : List (List α)), (∀ c ∈ css, c.length = n) → css.flatten.length = css.length * n
  | [], _ => by simp
  | c :: css, h => by
    have e := flatten_len css (fun c hc => h c (List.mem_cons_of_mem _ hc))
    have ec := h c (List.mem_cons_self ..)
    have : (css.length + 1) * n = css.length * n + n := Nat.succ_mul css.length n
    rw [List.flatten_cons, List.length_append, e, ec, List.length_cons]
    omega

theorem flatten_inv {α : Type} {n : Nat} {css : List (List α)} (h : ∀ c ∈ css, c.length = n) {k : Nat} {u : α} (hu : css.flatten[k]? = some u) : ∃ i j c, k = i * n + j ∧ css[i]? = some c ∧ c[j]? = some u := by
  have hk : k < css.length * n := by rw [← flatten_len css h]; exact (List.getElem?_eq_some_iff.1 hu).1
  have hn : 0 < n := by rcases Nat.eq_zero_or_pos n with h0 | h0; (subst h0; simp at hk); exact h0
  have hi : k / n < css.length := (Nat.div_lt_iff_lt_mul hn).2 hk
  have hj : k % n < n := Nat.mod_lt _ hn
  have e : k = k / n * n + k % n := by rw [Nat.mul_comm]; exact (Nat.div_add_mod k n).symm
  refine ⟨k / n, k % n, css[k / n], e, List.getElem?_eq_getElem hi, ?_⟩
  rw [← flatten_at css (k / n) (k % n) _ h (List.getElem?_eq_getElem hi) hj, ← e, hu]

/-- A slice's elements, as the list of their cells. -/
theorem Elems.flat {α : Type} {T : Ty α} {w : World} {B : Nat} {A : Option Addr} {xs : List α} (h : Elems T w B A xs) :
    ∃ css : List (List Value), css.length = xs.length ∧ (∀ i (h1 : i < xs.length) (h2 : i < css.length), T.rd w B css[i] xs[i]) ∧ (∀ c ∈ css, c.length = T.n) ∧ css.flatten.length = xs.length * T.n ∧
      (xs.length = 0 ∨ ∃ b off, A = some ⟨b, off, none⟩ ∧ b < B ∧ ∀ k u, css.flatten[k]? = some u → w.cell? ⟨b, off + k, none⟩ = some u) := by
  have h' : ∀ i : Fin xs.length, ∃ cs, T.rd w B cs xs[i] ∧ ∃ b off, A = some ⟨b, off, none⟩ ∧ b < B ∧ ∀ j u, cs[j]? = some u → w.cell? ⟨b, off + i * T.n + j, none⟩ = some u := fun i => by
    obtain ⟨b, off, cs, h1, h2, h3, h4⟩ := h i i.2
    exact ⟨cs, h3, b, off, h1, h2, h4⟩
  let css := List.ofFn fun i => (h' i).choose
  have hlen : css.length = xs.length := by simp [css]
  have hget : ∀ i (h1 : i < xs.length) (h2 : i < css.length), css[i] = (h' ⟨i, h1⟩).choose := fun i h1 h2 => by simp [css]
  have hrd : ∀ i (h1 : i < xs.length) (h2 : i < css.length), T.rd w B css[i] xs[i] := fun i h1 h2 => by
    rw [hget i h1 h2]
    exact (h' ⟨i, h1⟩).choose_spec.1
  have hn : ∀ c ∈ css, c.length = T.n := fun c hc => by
    obtain ⟨i, hi, rfl⟩ := List.mem_iff_getElem.1 hc
    exact T.len (hrd i (by omega) hi)
  refine ⟨css, hlen, hrd, hn, by rw [flatten_len css hn, hlen], ?_⟩
  rcases Nat.eq_zero_or_pos xs.length with h0 | h0
  · exact .inl h0
  · right
    obtain ⟨b, off, _, hA, hb, _, _⟩ := h 0 h0
    refine ⟨b, off, hA, hb, fun k u hu => ?_⟩
    obtain ⟨i, j, c, e, hc, hu'⟩ := flatten_inv hn hu
    obtain ⟨hi, rfl⟩ := List.getElem?_eq_some_iff.1 hc
    have hi' : i < xs.length := by omega
    rw [hget i hi' hi] at hu'
    obtain ⟨_, b', off', hA', _, hcell⟩ := (h' ⟨i, hi'⟩).choose_spec
    have := hA.symm.trans hA'
    simp only [Option.some.injEq, Addr.mk.injEq, and_true] at this
    obtain ⟨rfl, rfl⟩ := this
    rw [e, ← Nat.add_assoc]
    exact hcell j u hu'

section
variable {P : Program}

theorem info_of {e : TypeId} {size bytes c : Nat} (h : (P.info? e).map (fun i => (i.size, i.bytes, i.zero.map fun z => z.cells.size)) = some (size, bytes, some c)) : ∃ i z, P.info? e = some i ∧ i.zero = some z ∧ i.size = size ∧ i.bytes = bytes ∧ z.cells.size = c := by
  cases hi : P.info? e with
  | none => rw [hi] at h; cases h
  | some i =>
    rw [hi] at h
    simp only [Option.map_some, Option.some.injEq, Prod.mk.injEq] at h
    obtain ⟨h1, h2, h3⟩ := h
    cases hz : i.zero with
    | none => rw [hz] at h3; cases h3
    | some z =>
      rw [hz] at h3
      exact ⟨i, z, rfl, hz, h1, h2, by simpa using h3⟩

theorem one_flat {α : Type} {T : Ty α} {w : World} {B : Nat} {css : List (List Value)} {xs : List α} (h1 : ∀ cs x, T.rd w B cs x → ∀ u ∈ cs, u.oneCell' = true) (hl : css.length = xs.length)
    (hr : ∀ i (h1 : i < xs.length) (h2 : i < css.length), T.rd w B css[i] xs[i]) : ∀ u ∈ css.flatten, u.oneCell' = true := fun u hu => by
  obtain ⟨c, hc, huc⟩ := List.mem_flatten.1 hu
  obtain ⟨i, hi, rfl⟩ := List.mem_iff_getElem.1 hc
  exact h1 _ _ (hr i (by omega) hi) u huc

/-- What is appended: nothing, or the cells that lie behind an address. -/
def Lies (w : World) (A : Option Addr) (m : Nat) (news : List Value) : Prop := m = 0 ∨ ∃ ad, A = some ad ∧ ∀ j u, news[j]? = some u → w.cell? (ad.add j) = some u

theorem lies_of {α : Type} {w w' : World} {B : Nat} {A : Option Addr} {xs : List α} {news : List Value}
    (h : xs.length = 0 ∨ ∃ b off, A = some ⟨b, off, none⟩ ∧ b < B ∧ ∀ k u, news[k]? = some u → w.cell? ⟨b, off + k, none⟩ = some u) (hb : Below B w w') : Lies w' A xs.length news := by
  rcases h with h | ⟨b, off, hA, hlt, hc⟩
  · exact .inl h
  · refine .inr ⟨_, hA, fun j u hu => ?_⟩
    rw [Addr.add_lit]
    exact (hb.cell (p := ⟨b, off + j, none⟩) hlt).trans (hc j u hu)

/-- An own row that holds something, as a block known whole. -/
theorem own_block {w : World} {base : Nat} {e : TypeId} {size : Nat} {A : Option Addr} {n c : Nat} {xs : List Value} (h : w.ownsRow base e size (.slice A n c) n xs) (hn : 0 < n) :
    ∃ g cur, A = some ⟨g, 0, none⟩ ∧ base ≤ g ∧ g < w.heap.size ∧ Bk w g cur e ∧ n ≤ c ∧ c ≤ maxLen ∧ cur.size = c * size ∧ cur.toList.take (n * size) = xs := by
  rcases h.2 with ⟨_, h0⟩ | ⟨g, cap, cur, hv, h1, h2, h3, h4, h5, h6⟩
  · omega
  · injection hv with e1 e2 e3
    subst e1
    subst e3
    refine ⟨g, cur, rfl, h1, ?_, h2, h3, h4, h5, h6⟩
    rcases Nat.lt_or_ge g w.heap.size with hlt | hge
    · exact hlt
    · rw [Array.getElem?_eq_none hge] at h2; cases h2

/-- append onto a row of the call's own, whatever the source's address. -/
theorem append_own (w : World) (base : Nat) (t ty e : TypeId) (i : TypeInfo) (z : Value) (size bytes : Nat) (ht : P.underlying t = some (.slice e)) (hi : P.info? e = some i) (hz : i.zero = some z)
    (hsize : i.size = size) (hby : i.bytes = bytes) (hzs : z.cells.size = size) (hsz : 0 < size)
    {v : Value} {n : Nat} {xs : List Value} (hown : w.ownsRow base e size v n xs)
    (A : Option Addr) (m c : Nat) (news : List Value) (hl : news.length = m * size) (hsrc : Lies w A m news) (h1 : ∀ u ∈ news, u.oneCell' = true)
    (h63 : n + m ≤ maxLen) (hbytes : (n + m) * bytes ≤ 140737488355328) (hbase : base ≤ w.heap.size) :
    ∃ v' w', (Builtin.append_ #[t, t] ty #[v, .slice A m c]).run P w = .ok v' w' ∧ w'.ownsRow base e size v' (n + m) (xs ++ news) ∧ w.grownBy w' v.ownBlock ∧ (v'.ownBlock = v.ownBlock ∨ v'.ownBlock = some w.heap.size) := by
  have main : ∀ ad, A = some ad → (∀ j u, news[j]? = some u → w.cell? (ad.add j) = some u) → ∃ v' w', (Builtin.append_ #[t, t] ty #[v, .slice A m c]).run P w = .ok v' w' ∧ w'.ownsRow base e size v' (n + m) (xs ++ news) ∧ w.grownBy w' v.ownBlock ∧ (v'.ownBlock = v.ownBlock ∨ v'.ownBlock = some w.heap.size) := by
    rintro ad rfl hc
    obtain ⟨v', w', a1, a2, a3, _, a5⟩ := run_append_own_at w base t ty e i z size bytes ht hi hz hsize hby hzs hsz v n xs hown ad m c news hl hc h1 h63 hbytes hbase
    exact ⟨v', w', a1, a2, a3, a5⟩
  rcases hsrc with rfl | ⟨ad, hA, hc⟩
  · have hn : news = [] := List.eq_nil_of_length_eq_zero (by simpa using hl)
    subst hn
    cases A with
    | some ad => exact main ad rfl (fun j u hu => by simp at hu)
    | none =>
      refine ⟨v, w, ?_, by simpa using hown, ⟨rfl, rfl, rfl, Nat.le_refl _, fun _ _ _ => rfl⟩, .inl rfl⟩
      rcases hown.2 with ⟨rfl, rfl⟩ | ⟨g, cap, cur, rfl, _, _, hle, _⟩
      · exact run_append_nothing w t t ty e i ht hi none 0 0 (Nat.le_refl _) _ (Src.ofNil w ht c)
      · exact run_append_nothing w t t ty e i ht hi (some ⟨g, 0, none⟩) n cap hle _ (Src.ofNil w ht c)
  · exact main ad hA hc

theorem own_below {w w' : World} {base : Nat} {e : TypeId} {size : Nat} {v : Value} {n : Nat} {xs : List Value} (hown : w.ownsRow base e size v n xs) (hg : w.grownBy w' v.ownBlock) (hb : base ≤ w.heap.size) : Below base w w' := by
  refine ⟨hg.os, hg.tape, hg.output, hg.size, fun k hk => hg.block k (by omega) ?_⟩
  rcases hown.2 with ⟨rfl, _⟩ | ⟨g, cap, cur, rfl, hbg, _⟩
  · simp [Value.ownBlock]
  · simp only [Value.ownBlock, ne_eq, Option.some.injEq]
    omega

/-- A row of the call's own keeps what it holds where its block is kept. -/
theorem own_keep {w w' : World} {base B : Nat} {e : TypeId} {size : Nat} {v : Value} {n : Nat} {xs : List Value} (hown : w.ownsRow base e size v n xs) (hb : Below B w w') (hB : ∀ g, v.ownBlock = some g → g < B) : w'.ownsRow base e size v n xs := by
  refine ⟨hown.1, hown.2.imp id ?_⟩
  rintro ⟨g, cap, cur, rfl, h1, h2, h3⟩
  exact ⟨g, cap, cur, rfl, h1, (hb.block g (hB g rfl)).trans h2, h3⟩

/-- The same at the operation: the new value is a slice that shows what it is. -/
theorem wp_append {o : Oper} {a : Act} {w : World} {K : Act → World → Prop} {Q : Exit → Act → World → Prop} (s x : Operand) (t : TypeId)
    (ho : o.op = .call { callee := .builtin .append, args := #[s, x], argTypes := #[t, t] })
    (base : Nat) (e : TypeId) (i : TypeInfo) (z : Value) (size bytes : Nat) (ht : P.underlying t = some (.slice e)) (hi : P.info? e = some i) (hz : i.zero = some z)
    (hsize : i.size = size) (hby : i.bytes = bytes) (hzs : z.cells.size = size) (hsz : 0 < size)
    {v : Value} (n : Nat) (xs : List Value) (hs : a.eval s = v) (hown : w.ownsRow base e size v n xs)
    (A : Option Addr) (m c : Nat) (news : List Value) (hx : a.eval x = .slice A m c) (hl : news.length = m * size) (hsrc : Lies w A m news) (h1 : ∀ u ∈ news, u.oneCell' = true)
    (h63 : n + m ≤ maxLen) (hbytes : (n + m) * bytes ≤ 140737488355328) (hbase : base ≤ w.heap.size)
    (N : Nat) (ys : List Value) (hN : N = n + m) (hy : ys = xs ++ news) (h : ∀ A' c' w', w'.ownsRow base e size (.slice A' N c') N ys → Below base w w' → w.grownBy w' v.ownBlock → K (a.put o.dst (.slice A' N c')) w') : o.wp P a w K Q := by
  subst hN
  subst hy
  obtain ⟨v', w', hr, h2, h3, h4⟩ := append_own (P := P) w base t o.type e i z size bytes ht hi hz hsize hby hzs hsz hown A m c news hl hsrc h1 h63 hbytes hbase
  obtain ⟨A', c', rfl⟩ : ∃ A' c', v' = .slice A' (n + m) c' := by
    rcases h2.2 with ⟨rfl, h0⟩ | ⟨g, cap, cur, rfl, _⟩
    · exact ⟨none, 0, by rw [h0]⟩
    · exact ⟨_, _, rfl⟩
  unfold Oper.wp execOp
  simp only [ho, resolve, invoke, builtin, Sem.run_bind, Sem.run_pure, Result.andThen_ok, List.map_toArray, List.map_cons, List.map_nil, hs, hx, hr]
  exact h A' c' w' h2 (own_below hown h3 hbase) h3

theorem list_append {ops : Array Oper} {rest : List Oper} {o : Oper} {a : Act} {w : World} {Q : Exit → Act → World → Prop} (hgd : o.guard = none) (s x : Operand) (t : TypeId)
    (ho : o.op = .call { callee := .builtin .append, args := #[s, x], argTypes := #[t, t] })
    (base : Nat) (e : TypeId) (i : TypeInfo) (z : Value) (size bytes : Nat) (ht : P.underlying t = some (.slice e)) (hi : P.info? e = some i) (hz : i.zero = some z)
    (hsize : i.size = size) (hby : i.bytes = bytes) (hzs : z.cells.size = size) (hsz : 0 < size)
    {v : Value} (n : Nat) (xs : List Value) (hs : a.eval s = v) (hown : w.ownsRow base e size v n xs)
    (A : Option Addr) (m c : Nat) (news : List Value) (hx : a.eval x = .slice A m c) (hl : news.length = m * size) (hsrc : Lies w A m news) (h1 : ∀ u ∈ news, u.oneCell' = true)
    (h63 : n + m ≤ maxLen) (hbytes : (n + m) * bytes ≤ 140737488355328) (hbase : base ≤ w.heap.size)
    (N : Nat) (ys : List Value) (hN : N = n + m) (hy : ys = xs ++ news) (h : ∀ A' c' w', w'.ownsRow base e size (.slice A' N c') N ys → Below base w w' → w.grownBy w' v.ownBlock → wpList P ops Q rest (a.put o.dst (.slice A' N c')) w') : wpList P ops Q (o :: rest) a w :=
  wpList_plain hgd fun _ hK => wp_append s x t ho base e i z size bytes ht hi hz hsize hby hzs hsz n xs hs hown A m c news hx hl hsrc h1 h63 hbytes hbase N ys hN hy fun A' c' w' h2 h3 h4 => hK _ _ (h A' c' w' h2 h3 h4)

theorem step_append {ops : Array Oper} {o : Oper} {a : Act} {w : World} {K : Act → World → Prop} {Q : Exit → Act → World → Prop} {E : Prop} (hgd : o.guard = none) (s x : Operand) (t : TypeId)
    (ho : o.op = .call { callee := .builtin .append, args := #[s, x], argTypes := #[t, t] })
    (base : Nat) (e : TypeId) (i : TypeInfo) (z : Value) (size bytes : Nat) (ht : P.underlying t = some (.slice e)) (hi : P.info? e = some i) (hz : i.zero = some z)
    (hsize : i.size = size) (hby : i.bytes = bytes) (hzs : z.cells.size = size) (hsz : 0 < size)
    {v : Value} (n : Nat) (xs : List Value) (hs : a.eval s = v) (hown : w.ownsRow base e size v n xs)
    (A : Option Addr) (m c : Nat) (news : List Value) (hx : a.eval x = .slice A m c) (hl : news.length = m * size) (hsrc : Lies w A m news) (h1 : ∀ u ∈ news, u.oneCell' = true)
    (h63 : n + m ≤ maxLen) (hbytes : (n + m) * bytes ≤ 140737488355328) (hbase : base ≤ w.heap.size)
    (N : Nat) (ys : List Value) (hN : N = n + m) (hy : ys = xs ++ news) (h : ∀ A' c' w', w'.ownsRow base e size (.slice A' N c') N ys → Below base w w' → w.grownBy w' v.ownBlock → K (a.put o.dst (.slice A' N c')) w') :
    if Region.wanted o (yielded ops a.tmps) = true then Oper.wp P o a w K Q else E := by
  have hw : Region.wanted o (yielded ops a.tmps) = true := by simp [Region.wanted, hgd]
  rw [if_pos hw]
  exact wp_append s x t ho base e i z size bytes ht hi hz hsize hby hzs hsz n xs hs hown A m c news hx hl hsrc h1 h63 hbytes hbase N ys hN hy h

theorem own_empty {w : World} {base g : Nat} {e : TypeId} {size : Nat} (h : Bk w g #[] e) (hb : base ≤ g) : w.ownsRow base e size (.slice (some ⟨g, 0, none⟩) 0 0) 0 [] :=
  ⟨by simp, .inr ⟨g, 0, #[], rfl, hb, h, Nat.le_refl _, by simp [maxLen], by simp, by simp⟩⟩
theorem own_alloc {w : World} {base : Nat} {e : TypeId} {size : Nat} {v : Value} {n : Nat} {xs : List Value} (h : w.ownsRow base e size v n xs) (o : Obj) : (w.alloc o).ownsRow base e size v n xs := by
  refine own_keep h ((Below.refl w.heap.size w).alloc (Nat.le_refl _) o) fun g hg => ?_
  rcases h.2 with ⟨rfl, _⟩ | ⟨g', cap, cur, rfl, _, h2, _⟩
  · simp [Value.ownBlock] at hg
  · simp only [Value.ownBlock, Option.some.injEq] at hg
    subst hg
    rcases Nat.lt_or_ge g' w.heap.size with hlt | hge
    · exact hlt
    · rw [Array.getElem?_eq_none hge] at h2; cases h2
theorem bk_next (w : World) (o : Obj) (C : Array Value) (t : TypeId) : Bk ((w.alloc o).alloc (.cells C t)) (w.heap.size + 1) C t := by
  have h := Bk.new (w.alloc o) C t
  have e : (w.alloc o).heap.size = w.heap.size + 1 := by simp
  rw [e] at h
  exact h
theorem lies_bk {w : World} {b : Nat} {C : Array Value} {t : TypeId} (h : Bk w b C t) (m : Nat) : Lies w (some ⟨b, 0, none⟩) m C.toList :=
  .inr ⟨_, rfl, fun j u hu => by rw [Addr.add_lit, h.cell]; simpa using hu⟩
theorem grown_bk {w w' : World} {row : Option Nat} (hg : w.grownBy w' row) {b : Nat} {C : Array Value} {t : TypeId} (h : Bk w b C t) (hne : some b ≠ row) : Bk w' b C t := (hg.block b h.lt hne).trans h

/-- An empty row that the call has made owns nothing yet. -/
theorem own_start (w : World) (base : Nat) (e : TypeId) (size : Nat) (h : base ≤ w.heap.size) : (w.alloc (.cells #[] e)).ownsRow base e size (.slice (some ⟨w.heap.size, 0, none⟩) 0 0) 0 [] :=
  ⟨by simp, .inr ⟨w.heap.size, 0, #[], rfl, h, heap_alloc_new w _, Nat.le_refl _, by simp [maxLen], by simp, by simp⟩⟩

/-- An own row that holds elements reads as them. -/
theorem own_elems {α : Type} {T : Ty α} {w : World} {base B : Nat} {e : TypeId} {g n cap : Nat} {css : List (List Value)} {xs : List α} (hown : w.ownsRow base e T.n (.slice (some ⟨g, 0, none⟩) n cap) n css.flatten) (hg : g < B)
    (hl : css.length = xs.length) (hr : ∀ i (h : i < xs.length), T.rd w B (css[i]'(by omega)) xs[i]) : Elems T w B (some ⟨g, 0, none⟩) xs :=
  Elems.of_flat css hg hl hr fun k u hu => by
    have := hown.cells (g := g) rfl k u hu
    rwa [Addr.add_lit] at this
end
end Go.Proofs.YtojkpoikamcgkaaDoor
