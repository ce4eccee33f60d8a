/- What a call leaves alone where it writes into blocks that are named: 'Only S w w''. No program is named here. -/
import Derived.Test.YtojkpoikamcgkaaDoorCopy
namespace Go.Proofs.YtojkpoikamcgkaaDoor
open Go.RowKit
set_option linter.unusedVariables false
set_option linter.unusedSimpArgs false

/-- w' is w, but for new blocks and the blocks in S. -/
structure Only (S : Nat → Prop) (w w' : World) : Prop where
  os : w'.os = w.os
  tape : w'.tape = w.tape
  output : w'.output = w.output
  size : w.heap.size ≤ w'.heap.size
  block : ∀ k, k < w.heap.size → ¬ S k → w'.heap[k]? = w.heap[k]?

section
variable {S T : Nat → Prop} {a b c w w' : World}
theorem Only.refl (S : Nat → Prop) (w : World) : Only S w w := ⟨rfl, rfl, rfl, Nat.le_refl _, fun _ _ _ => rfl⟩
theorem Only.trans (h : Only S a b) (k : Only S b c) : Only S a c :=
  ⟨k.os.trans h.os, k.tape.trans h.tape, k.output.trans h.output, Nat.le_trans h.size k.size, fun i hi hn => (k.block i (Nat.lt_of_lt_of_le hi h.size) hn).trans (h.block i hi hn)⟩
/-- .. where the second one may write what is new since a. -/
theorem Only.trans' (h : Only S a b) (k : Only T b c) (hT : ∀ g, T g → S g ∨ a.heap.size ≤ g) : Only S a c :=
  ⟨k.os.trans h.os, k.tape.trans h.tape, k.output.trans h.output, Nat.le_trans h.size k.size, fun i hi hn => (k.block i (Nat.lt_of_lt_of_le hi h.size) (fun ht => by
    rcases hT i ht with h1 | h1
    · exact hn h1
    · omega)).trans (h.block i hi hn)⟩
theorem Only.mono (h : Only S w w') (hST : ∀ g, S g → T g) : Only T w w' := ⟨h.os, h.tape, h.output, h.size, fun k hk hn => h.block k hk (fun hs => hn (hST k hs))⟩
theorem Only.alloc (h : Only S a w) (o : Obj) : Only S a (w.alloc o) := h.trans ⟨rfl, rfl, rfl, by simp, fun k hk _ => Below.heap_alloc _ _ _ hk⟩
theorem Only.drew (h : Only S a w) : Only S a w.drew := ⟨h.os, h.tape, h.output, h.size, h.block⟩
theorem Only.drewN (h : Only S a w) (n : Nat) : Only S a (w.drewN n) := ⟨h.os, h.tape, h.output, h.size, h.block⟩
theorem Only.set_ (h : Only S a w) {p : Addr} (hp : S p.block ∨ a.heap.size ≤ p.block) (v : Value) : Only S a (w.setCell p v) :=
  ⟨h.os, h.tape, h.output, by simpa [World.setCell] using h.size, fun k hk hn => by
    rw [Below.heap_setCell _ _ _ _ (fun e => by rcases hp with h1 | h1; exact hn (e ▸ h1); omega)]
    exact h.block k hk hn⟩
theorem Only.below (h : Only S a w) (hb : Below a.heap.size w w') : Only S a w' :=
  ⟨hb.os.trans h.os, hb.tape.trans h.tape, hb.output.trans h.output, Nat.le_trans h.size hb.size, fun k hk hn => (hb.block k hk).trans (h.block k hk hn)⟩
theorem Only.grown (h : Only S a w) {row : Option Nat} (hg : w.grownBy w' row) (hr : ∀ g, row = some g → S g ∨ a.heap.size ≤ g) : Only S a w' :=
  ⟨hg.os.trans h.os, hg.tape.trans h.tape, hg.output.trans h.output, Nat.le_trans h.size hg.size, fun k hk hn => (hg.block k (Nat.lt_of_lt_of_le hk h.size) (fun e => by
    rcases hr k e.symm with h1 | h1
    · exact hn h1
    · omega)).trans (h.block k hk hn)⟩
theorem Only.of_below (hb : Below w.heap.size w w') : Only S w w' := ⟨hb.os, hb.tape, hb.output, hb.size, fun k hk _ => hb.block k hk⟩
theorem Only.to_below {B : Nat} (h : Only S w w') (hS : ∀ g, S g → B ≤ g) (hB : B ≤ w.heap.size) : Below B w w' :=
  ⟨h.os, h.tape, h.output, h.size, fun k hk => h.block k (by omega) (fun hs => by have := hS k hs; omega)⟩
theorem Only.none (h : Only (fun _ => False) w w') : Below w.heap.size w w' := ⟨h.os, h.tape, h.output, h.size, fun k hk => h.block k hk (fun h => h)⟩
theorem Only.ext0 (h : Only S a w) (u : World) : Only S a (ext w u) := h.trans (Only.of_below (below_ext w u))
theorem Below.alloc0 (h : Below a.heap.size a w) (o : Obj) : Below a.heap.size a (w.alloc o) := h.alloc h.size o
theorem Below.ext0 (h : Below a.heap.size a w) (u : World) : Below a.heap.size a (ext w u) := ext_below h h.size u
theorem Below.trans0 (h : Below a.heap.size a w) (k : Below w.heap.size w w') : Below a.heap.size a w' := h.trans (k.mono h.size)
theorem Bk.only {g t : Nat} {C : Array Value} (hk : Bk w g C t) (h : Only S w w') (hn : ¬ S g) : Bk w' g C t := (h.block g hk.lt hn).trans hk
theorem own_only {base : Nat} {e : TypeId} {size : Nat} {v : Value} {n : Nat} {xs : List Value} (hown : w.ownsRow base e size v n xs) (h : Only S w w') (hn : ∀ g, v.ownBlock = some g → ¬ S g) : w'.ownsRow base e size v n xs := by
  refine ⟨hown.1, hown.2.imp id ?_⟩
  rintro ⟨g, cap, cur, rfl, h1, h2, h3⟩
  refine ⟨g, cap, cur, rfl, h1, (h.block g ?_ (hn g rfl)).trans h2, h3⟩
  rcases Nat.lt_or_ge g w.heap.size with hlt | hge
  · exact hlt
  · rw [Array.getElem?_eq_none hge] at h2; cases h2
theorem own_lt {base : Nat} {e : TypeId} {size : Nat} {v : Value} {n : Nat} {xs : List Value} (h : w.ownsRow base e size v n xs) {g : Nat} (hg : v.ownBlock = some g) : base ≤ g ∧ g < w.heap.size := by
  rcases h.2 with ⟨rfl, _⟩ | ⟨g', cap, cur, rfl, h1, h2, _⟩
  · simp [Value.ownBlock] at hg
  · simp only [Value.ownBlock, Option.some.injEq] at hg
    subst hg
    refine ⟨h1, ?_⟩
    rcases Nat.lt_or_ge g' w.heap.size with hlt | hge
    · exact hlt
    · rw [Array.getElem?_eq_none hge] at h2; cases h2
/-- A reader that looks at the cells alone. -/
def Flat {α : Type} (T : Ty α) : Prop := ∀ {w w' : World} {B B' : Nat} {cs : List Value} {x : α}, T.rd w B cs x → T.rd w' B' cs x
theorem flat_int : Flat tInt := fun h => h
theorem flat_bool : Flat tBool := fun h => h
theorem flat_pair {α β : Type} {S : Ty α} {T : Ty β} (hS : Flat S) (hT : Flat T) : Flat (tPair S T) := fun ⟨c1, c2, e, h1, h2⟩ => ⟨c1, c2, e, hS h1, hT h2⟩
theorem Elems.only {α : Type} {T : Ty α} {B : Nat} {A : Option Addr} {xs : List α} (h : Elems T w B A xs) (hT : Flat T) (ho : Only S w w') (hB : B ≤ w.heap.size) (hn : ∀ g off, A = some ⟨g, off, .none⟩ → ¬ S g) : Elems T w' B A xs := fun i hi => by
  obtain ⟨b, off, cs, hA, hb, hr, hc⟩ := h i hi
  refine ⟨b, off, cs, hA, hb, hT hr, fun j u hu => ?_⟩
  rw [World.cell?_of_block (a := ⟨b, off + i * T.n + j, .none⟩) (ho.block b (by omega) (hn b off hA))]
  exact hc j u hu
/-- A slice that came into being behind block B. -/
def Fresh (B : Nat) (A : Option Addr) : Prop := ∀ g off s, A = some ⟨g, off, s⟩ → B ≤ g
theorem fresh_none (B : Nat) : Fresh B .none := fun _ _ _ h => by cases h
theorem own_nil {w : World} {base : Nat} {e : TypeId} {size : Nat} : w.ownsRow base e size (.slice .none 0 0) 0 [] := ⟨by simp, .inl ⟨rfl, rfl⟩⟩
end
section
variable {P : Program}
/-- The same at the operation: the new value is a slice that shows what it is. -/
theorem wp_append2 {o : Oper} {a : Act} {w : World} {K : Act → World → Prop} {Q : Exit → Act → World → Prop} (s x : Operand) (t : TypeId)
    (ho : o.op = .call { callee := .builtin .append, args := #[s, x], argTypes := #[t, t] })
    (base : Nat) (e : TypeId) (i : TypeInfo) (z : Value) (size bytes : Nat) (ht : P.underlying t = some (.slice e)) (hi : P.info? e = some i) (hz : i.zero = some z)
    (hsize : i.size = size) (hby : i.bytes = bytes) (hzs : z.cells.size = size) (hsz : 0 < size)
    {v : Value} (n : Nat) (xs : List Value) (hs : a.eval s = v) (hown : w.ownsRow base e size v n xs)
    (A : Option Addr) (m c : Nat) (news : List Value) (hx : a.eval x = .slice A m c) (hl : news.length = m * size) (hsrc : Lies w A m news) (h1 : ∀ u ∈ news, u.oneCell' = true)
    (h63 : n + m ≤ maxLen) (hbytes : (n + m) * bytes ≤ 140737488355328) (hbase : base ≤ w.heap.size)
    (N : Nat) (ys : List Value) (hN : N = n + m) (hy : ys = xs ++ news) (h : ∀ A' c' w', w'.ownsRow base e size (.slice A' N c') N ys → Below base w w' → w.grownBy w' v.ownBlock → (A'.map (·.block) = v.ownBlock ∨ A'.map (·.block) = some w.heap.size) → K (a.put o.dst (.slice A' N c')) w') : o.wp P a w K Q := by
  subst hN
  subst hy
  obtain ⟨v', w', hr, h2, h3, h4⟩ := append_own (P := P) w base t o.type e i z size bytes ht hi hz hsize hby hzs hsz hown A m c news hl hsrc h1 h63 hbytes hbase
  obtain ⟨A', c', rfl⟩ : ∃ A' c', v' = .slice A' (n + m) c' := by
    rcases h2.2 with ⟨rfl, h0⟩ | ⟨g, cap, cur, rfl, _⟩
    · exact ⟨none, 0, by rw [h0]⟩
    · exact ⟨_, _, rfl⟩
  unfold Oper.wp execOp
  simp only [ho, resolve, invoke, builtin, Sem.run_bind, Sem.run_pure, Result.andThen_ok, List.map_toArray, List.map_cons, List.map_nil, hs, hx, hr]
  exact h A' c' w' h2 (own_below hown h3 hbase) h3 (by cases A' <;> exact h4)

theorem list_append2 {ops : Array Oper} {rest : List Oper} {o : Oper} {a : Act} {w : World} {Q : Exit → Act → World → Prop} (hgd : o.guard = none) (s x : Operand) (t : TypeId)
    (ho : o.op = .call { callee := .builtin .append, args := #[s, x], argTypes := #[t, t] })
    (base : Nat) (e : TypeId) (i : TypeInfo) (z : Value) (size bytes : Nat) (ht : P.underlying t = some (.slice e)) (hi : P.info? e = some i) (hz : i.zero = some z)
    (hsize : i.size = size) (hby : i.bytes = bytes) (hzs : z.cells.size = size) (hsz : 0 < size)
    {v : Value} (n : Nat) (xs : List Value) (hs : a.eval s = v) (hown : w.ownsRow base e size v n xs)
    (A : Option Addr) (m c : Nat) (news : List Value) (hx : a.eval x = .slice A m c) (hl : news.length = m * size) (hsrc : Lies w A m news) (h1 : ∀ u ∈ news, u.oneCell' = true)
    (h63 : n + m ≤ maxLen) (hbytes : (n + m) * bytes ≤ 140737488355328) (hbase : base ≤ w.heap.size)
    (N : Nat) (ys : List Value) (hN : N = n + m) (hy : ys = xs ++ news) (h : ∀ A' c' w', w'.ownsRow base e size (.slice A' N c') N ys → Below base w w' → w.grownBy w' v.ownBlock → (A'.map (·.block) = v.ownBlock ∨ A'.map (·.block) = some w.heap.size) → wpList P ops Q rest (a.put o.dst (.slice A' N c')) w') : wpList P ops Q (o :: rest) a w :=
  wpList_plain hgd fun _ hK => wp_append2 s x t ho base e i z size bytes ht hi hz hsize hby hzs hsz n xs hs hown A m c news hx hl hsrc h1 h63 hbytes hbase N ys hN hy fun A' c' w' h2 h3 h4 h5 => hK _ _ (h A' c' w' h2 h3 h4 h5)

theorem step_append2 {ops : Array Oper} {o : Oper} {a : Act} {w : World} {K : Act → World → Prop} {Q : Exit → Act → World → Prop} {E : Prop} (hgd : o.guard = none) (s x : Operand) (t : TypeId)
    (ho : o.op = .call { callee := .builtin .append, args := #[s, x], argTypes := #[t, t] })
    (base : Nat) (e : TypeId) (i : TypeInfo) (z : Value) (size bytes : Nat) (ht : P.underlying t = some (.slice e)) (hi : P.info? e = some i) (hz : i.zero = some z)
    (hsize : i.size = size) (hby : i.bytes = bytes) (hzs : z.cells.size = size) (hsz : 0 < size)
    {v : Value} (n : Nat) (xs : List Value) (hs : a.eval s = v) (hown : w.ownsRow base e size v n xs)
    (A : Option Addr) (m c : Nat) (news : List Value) (hx : a.eval x = .slice A m c) (hl : news.length = m * size) (hsrc : Lies w A m news) (h1 : ∀ u ∈ news, u.oneCell' = true)
    (h63 : n + m ≤ maxLen) (hbytes : (n + m) * bytes ≤ 140737488355328) (hbase : base ≤ w.heap.size)
    (N : Nat) (ys : List Value) (hN : N = n + m) (hy : ys = xs ++ news) (h : ∀ A' c' w', w'.ownsRow base e size (.slice A' N c') N ys → Below base w w' → w.grownBy w' v.ownBlock → (A'.map (·.block) = v.ownBlock ∨ A'.map (·.block) = some w.heap.size) → K (a.put o.dst (.slice A' N c')) w') :
    if Region.wanted o (yielded ops a.tmps) = true then Oper.wp P o a w K Q else E := by
  have hw : Region.wanted o (yielded ops a.tmps) = true := by simp [Region.wanted, hgd]
  rw [if_pos hw]
  exact wp_append2 s x t ho base e i z size bytes ht hi hz hsize hby hzs hsz n xs hs hown A m c news hx hl hsrc h1 h63 hbytes hbase N ys hN hy h

end

def fits (n : Int) : Prop := -9223372036854775808 ≤ n ∧ n ≤ 9223372036854775807

/-- Numbers in a new block of their own. -/
theorem elems_new (W : World) (b t : Nat) (zs : List Int) (hb : W.heap.size = b) (hz : ∀ z ∈ zs, fits z) :
    Elems tInt (W.alloc (.cells (zs.map (Value.int .i64)).toArray t)) (b + 1) (some ⟨b, 0, none⟩) zs := fun i hi => by
  refine ⟨b, 0, [.int .i64 zs[i]], rfl, by omega, ⟨rfl, hz _ (List.getElem_mem hi)⟩, ?_⟩
  intro j u hu
  have hj : j = 0 := by
    have := (List.getElem?_eq_some_iff.1 hu).1
    simpa using this
  subst hj hb
  simp only [List.getElem?_cons_zero, Option.some.injEq] at hu
  subst hu
  simp only [World.cell?, heap_alloc_new]
  simp [tInt, hi]
theorem own_form {w : World} {base : Nat} {e : TypeId} {size : Nat} {v : Value} {n : Nat} {xs : List Value} (h : w.ownsRow base e size v n xs) : ∃ A c, v = .slice A n c ∧ n ≤ c ∧ c ≤ maxLen := by
  rcases h.2 with ⟨rfl, rfl⟩ | ⟨g, cap, cur, rfl, _, _, h3, h4, _⟩
  · exact ⟨none, 0, rfl, Nat.le_refl _, by simp [maxLen]⟩
  · exact ⟨_, _, rfl, h3, h4⟩
theorem below_self (w : World) (o : Obj) : Below w.heap.size w (w.alloc o) := (Below.refl _ w).alloc (Nat.le_refl _) o
theorem bk_new_at (X : World) (g : Nat) (C : Array Value) (t : TypeId) (h : X.heap.size = g) : Bk (X.alloc (.cells C t)) g C t := by
  subst h; exact Bk.new _ _ _
theorem ext_self (W : World) : ∃ u, W = ext W u := by
  obtain ⟨u, hu⟩ := ext_of (W := W) (w' := W) (Below.refl _ _)
  exact ⟨u, hu.symm⟩
theorem ext_alloc (W u : World) (o : Obj) : ∃ v, (ext W u).alloc o = ext W v := by
  obtain ⟨v, hv⟩ := ext_of (((below_ext W u).alloc (size_ext W u) o))
  exact ⟨v, hv.symm⟩
theorem forget_then {K : Act → World → Prop} {Q : Exit → Act → World → Prop} {a : Act} {W : World} (F : World → Prop) (hF : F W) (h : ∀ w, F w → Exit.then K Q .normal a w) : Exit.then K Q .normal a W := h W hF
end Go.Proofs.YtojkpoikamcgkaaDoor
