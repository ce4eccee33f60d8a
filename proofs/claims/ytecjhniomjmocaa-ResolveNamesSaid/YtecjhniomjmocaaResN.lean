/- Layer 12 (resolve): a slice of rules of the call's own, each with zones of the call's own; faults. -/
import Derived.Test.YtecjhniomjmocaaResK
import Derived.Test.YtecjhniomjmocaaResM
namespace Go.Proofs.Ytecjhniomjmocaa
open Go.RowKit Go.ChangeAt
set_option linter.unusedVariables false
set_option linter.unusedSimpArgs false
attribute [local go_sem] ext_cell ext_frozen lt_ext ext_drew

def rlV (q : Rl) (v : Value) : List Value := [.int .i64 q.1, .string q.2.1, v, .int .i64 q.2.2.2.1, .int .i64 q.2.2.2.2.1.1, .int .i64 q.2.2.2.2.1.2, .int .i64 q.2.2.2.2.2.1, .int .i64 q.2.2.2.2.2.2]
def okRl (q : Rl) : Prop := q.2.1.size ≤ maxLen ∧ fits q.1 ∧ fits q.2.2.2.1 ∧ fits q.2.2.2.2.1.1 ∧ fits q.2.2.2.2.1.2 ∧ fits q.2.2.2.2.2.1 ∧ fits q.2.2.2.2.2.2
/-- The cells of a rule whose zones are the call's own. -/
def RlAt (X : World) (cs : List Value) (q : Rl) : Prop := ∃ A c, cs = rlV q (.slice A q.2.2.1.length c) ∧ OwnL tZn 42 X 0 0 (.slice A q.2.2.1.length c) q.2.2.1 ∧ okRl q
theorem RlAt.only {X X' : World} {cs : List Value} {q : Rl} {S : Nat → Prop} (h : RlAt X cs q) (ho : Only S X X') (hS : ∀ g, S g → ∃ C t, Bk X g C t ∧ t ≠ 42) : RlAt X' cs q := by
  obtain ⟨A, c, h1, h2, h3⟩ := h
  refine ⟨A, c, h1, own_zones h2 ho (fun g hg hs => ?_), h3⟩
  obtain ⟨C, t, hb, hne⟩ := hS g hs
  exact other_zn h2 hb hne hg.symm
def OwnR (X : World) (base : Nat) (v : Value) (qs : List Rl) : Prop :=
  ∃ css : List (List Value), css.length = qs.length ∧ X.ownsRow base 54 8 v qs.length css.flatten ∧ ∀ i (h1 : i < qs.length) (h2 : i < css.length), RlAt X css[i] qs[i]
variable {X X' : World} {base : Nat} {v : Value} {qs : List Rl}
theorem OwnR.nil : OwnR X base (.slice none 0 0) [] := ⟨[], rfl, own_nil, fun i h => by simp at h⟩
theorem OwnR.form (h : OwnR X base v qs) : ∃ A c, v = .slice A qs.length c ∧ qs.length ≤ c ∧ c ≤ maxLen := by
  obtain ⟨css, _, h, _⟩ := h
  exact own_form h
theorem OwnR.lt (h : OwnR X base v qs) : ∀ g, v.ownBlock = some g → base ≤ g ∧ g < X.heap.size := by
  obtain ⟨css, _, h, _⟩ := h
  exact fun g hg => own_lt h hg
theorem own_typed {w : World} {base : Nat} {e : TypeId} {size : Nat} {v : Value} {n : Nat} {xs : List Value} (h : w.ownsRow base e size v n xs) {g : Nat} (hg : v.ownBlock = some g) : ∃ C, Bk w g C e := by
  obtain ⟨_, ⟨rfl, _⟩ | ⟨g', cap, cur, rfl, _, h2, _⟩⟩ := h
  · simp [Value.ownBlock] at hg
  · simp only [Value.ownBlock, Option.some.injEq] at hg
    subst hg
    exact ⟨cur, h2⟩
theorem OwnR.typed (h : OwnR X base v qs) {g : Nat} (hg : v.ownBlock = some g) : ∃ C, Bk X g C 54 := by
  obtain ⟨css, _, h, _⟩ := h
  exact own_typed h hg
theorem OwnR.only {S : Nat → Prop} (h : OwnR X base v qs) (ho : Only S X X') (hS : ∀ g, S g → ∃ C t, Bk X g C t ∧ t ≠ 42) (hn : ∀ g, v.ownBlock = some g → ¬ S g) : OwnR X' base v qs := by
  obtain ⟨css, h1, h2, h3⟩ := h
  exact ⟨css, h1, own_only h2 ho hn, fun i a1 a2 => (h3 i a1 a2).only ho hS⟩
theorem OwnR.below (h : OwnR X base v qs) (hb : Below X.heap.size X X') : OwnR X' base v qs :=
  h.only (S := fun _ => False) (Only.of_below hb) (fun g hg => hg.elim) (fun g _ hg => hg)
theorem rl_rd {B : Nat} {cs : List Value} {q : Rl} (h : RlAt X cs q) (hB : X.heap.size ≤ B) : tRl.rd X B cs q := by
  obtain ⟨A, c, rfl, h2, g1, g2, g3, g4, g5, g6, g7⟩ := h
  obtain ⟨A2, c2, e, k1, k2⟩ := h2.form
  cases e
  exact ⟨[_], _, rfl, ⟨rfl, g2⟩, [_], _, rfl, ⟨rfl, g1⟩, [_], _, rfl, ⟨A, c, rfl, k1, k2, h2.elems (Nat.zero_le _) hB⟩, [_], _, rfl, ⟨rfl, g3⟩, [_, _], [_, _], rfl, ⟨[_], [_], rfl, ⟨rfl, g4⟩, ⟨rfl, g5⟩⟩, ⟨[_], [_], rfl, ⟨rfl, g6⟩, ⟨rfl, g7⟩⟩⟩
theorem OwnR.elems {A : Option Addr} {n c : Nat} (h : OwnR X base (.slice A n c) qs) : Elems tRl X X.heap.size A qs := by
  obtain ⟨css, h1, h2, h3⟩ := h
  have h2' := h2
  obtain ⟨_, ⟨e, hn⟩ | ⟨g, cap, cur, e, _, hb, _⟩⟩ := h2
  · cases e
    have : qs = [] := List.length_eq_zero_iff.1 hn
    subst this
    exact Elems.nil
  · cases e
    refine own_elems (base := base) (e := 54) (css := css) h2' (Bk.lt hb) h1 (fun i hi => rl_rd (h3 i hi (by omega)) (Nat.le_refl _))

section
variable {ops : Array Oper} {rest : List Oper} {o : Oper} {a : Act} {Q : Exit → Act → World → Prop}
theorem list_appendR (hgd : o.guard = none) (s x : Operand) (ho : o.op = .call { callee := .builtin .append, args := #[s, x], argTypes := #[33, 33] })
    (hs : a.eval s = v) (hown : OwnR X base v qs) (A : Option Addr) (c : Nat) (cs : List Value) (q : Rl) (hx : a.eval x = .slice A 1 c) (hsrc : Lies X A 1 cs) (hq : RlAt X cs q) (h63 : qs.length ≤ 1000) (hbase : base ≤ X.heap.size)
    (h : ∀ A' c' w', OwnR w' base (.slice A' (qs.length + 1) c') (qs ++ [q]) → Below base X w' → Only (fun g => v.ownBlock = some g) X w' → wpList Try.prog ops Q rest (a.put o.dst (.slice A' (qs.length + 1) c')) w') : wpList Try.prog ops Q (o :: rest) a X := by
  obtain ⟨css, h1, h2, h3⟩ := hown
  obtain ⟨i, z, hi, hz, hsz, hby, hzs⟩ := info_of (P := Try.prog) (e := 54) (size := 8) (bytes := 88) (c := 8) (by kernel_rfl)
  have hlc : cs.length = 8 := by obtain ⟨_, _, rfl, _⟩ := hq; rfl
  refine list_append2 hgd s x 33 ho base 54 i z 8 88 Try.underlying33 hi hz hsz hby hzs (by decide) qs.length css.flatten hs h2 A 1 c cs hx (by omega) hsrc ?_ (by unfold maxLen; omega) (by omega) hbase (qs.length + 1) (css ++ [cs]).flatten rfl (by simp) ?_
  · obtain ⟨A, c, rfl, _⟩ := hq
    intro u hu
    simp only [rlV, List.mem_cons, List.not_mem_nil, or_false] at hu
    rcases hu with rfl | rfl | rfl | rfl | rfl | rfl | rfl | rfl <;> rfl
  · intro A' c' w' g1 g2 g3 g4
    have ho : Only (fun g => v.ownBlock = some g) X w' := (Only.refl _ _).grown g3 (fun g e => .inl e)
    refine h A' c' w' ⟨css ++ [cs], by simp [h1], by simpa using g1, fun i a1 a2 => ?_⟩ g2 ho
    have key : ∀ {cs' : List Value} {q' : Rl}, RlAt X cs' q' → RlAt w' cs' q' := fun hh => hh.only ho (fun g hg => by
      obtain ⟨C, hC⟩ := own_typed h2 hg
      exact ⟨C, _, hC, by decide⟩)
    by_cases hlt : i < qs.length
    · rw [List.getElem_append_left (by omega), List.getElem_append_left (by omega)]
      exact key (h3 i hlt (by omega))
    · have : i = qs.length := by simp at a1; omega
      subst this
      rw [List.getElem_append_right (by omega), List.getElem_append_right (by omega)]
      simpa [h1] using key hq
end
/-- A fault's reader. -/
abbrev tFa : Ty Fa := tPair tInt (tPair tInt tInt)
theorem one_fa : ∀ (w : World) (B : Nat) (cs : List Value) (x : Fa), tFa.rd w B cs x → ∀ u ∈ cs, u.oneCell' = true := by
  rintro w B cs x ⟨c1, r1, rfl, ⟨rfl, _⟩, ⟨c2, r2, rfl, ⟨rfl, _⟩, ⟨rfl, _⟩⟩⟩ u hu
  simp at hu
  rcases hu with rfl | rfl | rfl <;> rfl
theorem fa_rd (w : World) (B : Nat) {a b c : Int} (h1 : fits a) (h2 : fits b) (h3 : fits c) : tFa.rd w B [.int .i64 a, .int .i64 b, .int .i64 c] (a, b, c) := ⟨[_], [_, _], rfl, ⟨rfl, h1⟩, ⟨[_], [_], rfl, ⟨rfl, h2⟩, ⟨rfl, h3⟩⟩⟩
theorem ownL_typed {α : Type} {T : Ty α} {e : TypeId} {B : Nat} {qs : List α} (h : OwnL T e X base B v qs) {g : Nat} (hg : v.ownBlock = some g) : ∃ C, Bk X g C e := by
  obtain ⟨css, _, _, h⟩ := h
  exact own_typed h hg
end Go.Proofs.Ytecjhniomjmocaa
