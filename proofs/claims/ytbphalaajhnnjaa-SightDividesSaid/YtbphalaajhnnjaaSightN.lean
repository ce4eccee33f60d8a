/- SightSymmetric: Crosses is the same for the points exchanged, for X and Y exchanged, and mirrored; for every eight numbers; no condition. The row. -/
import Derived.Test.YtbphalaajhnnjaaSightM
namespace Go.Proofs.Ytbphalaajhnnjaa
open Go.RowKit Go.ChangeAt
set_option linter.unusedVariables false

theorem opensU16 : Opens Try.prog 34 tU16 := opens_u16 Try.underlying34 (by kernel_rfl)
theorem opens8 : Opens Try.prog 35 (tArr 8 tU16) := opens_arr Try.underlying35 (by kernel_rfl) opensU16

theorem u16_at {w : World} {B : Nat} {cs : List Value} {x : Int} (h : tU16.rd w B cs x) : cs = [.int .u16 x] ∧ 0 ≤ x ∧ x ≤ 65535 := h

/-- An array of small numbers, cell by cell. -/
theorem arr_cells {w : World} {B m : Nat} {cs : List Value} {xs : List Int} (h : (tArr m tU16).rd w B cs xs) : cs = xs.map (Value.int .u16) ∧ xs.length = m ∧ ∀ x ∈ xs, 0 ≤ x ∧ x ≤ 65535 := by
  obtain ⟨h1, h2, h3⟩ := h
  have h1' : cs.length = m := by
    have : m * tU16.n = m := Nat.mul_one m
    omega
  refine ⟨?_, h2, fun x hx => ?_⟩
  · apply List.ext_getElem?
    intro i
    by_cases hi : i < xs.length
    · have := (h3 i hi).1
      have e : (cs.drop (i * 1)).take 1 = [Value.int .u16 xs[i]] := this
      rw [Nat.mul_one] at e
      have e2 : ((cs.drop i).take 1)[0]? = some (Value.int .u16 xs[i]) := by rw [e]; rfl
      rw [List.getElem?_take_of_lt (by omega), List.getElem?_drop] at e2
      rw [Nat.add_zero] at e2
      rw [e2, List.getElem?_map, List.getElem?_eq_getElem hi]; rfl
    · rw [List.getElem?_eq_none (by omega), List.getElem?_eq_none (by simp; omega)]
  · obtain ⟨i, hi, rfl⟩ := List.mem_iff_getElem.1 hx
    exact (h3 i hi).2

theorem eight {α : Type} : ∀ l : List α, l.length = 8 → ∃ a b c d e f g h, l = [a, b, c, d, e, f, g, h]
  | [a, b, c, d, e, f, g, h], _ => ⟨a, b, c, d, e, f, g, h, rfl⟩
theorem four {α : Type} : ∀ l : List α, l.length = 4 → ∃ a b c d, l = [a, b, c, d]
  | [a, b, c, d], _ => ⟨a, b, c, d, rfl⟩

theorem arr8_of {w : World} {cs : Array Value} {xs : List Int} (h : (tArr 8 tU16).rd w w.heap.size cs.toList xs) :
    ∃ a b c d e f g k, Value.agg cs = .agg #[.int .u16 a, .int .u16 b, .int .u16 c, .int .u16 d, .int .u16 e, .int .u16 f, .int .u16 g, .int .u16 k] ∧
      (0 ≤ a ∧ a ≤ 65535) ∧ (0 ≤ b ∧ b ≤ 65535) ∧ (0 ≤ c ∧ c ≤ 65535) ∧ (0 ≤ d ∧ d ≤ 65535) ∧ (0 ≤ e ∧ e ≤ 65535) ∧ (0 ≤ f ∧ f ≤ 65535) ∧ (0 ≤ g ∧ g ≤ 65535) ∧ (0 ≤ k ∧ k ≤ 65535) := by
  obtain ⟨h1, h2, h3⟩ := arr_cells h
  obtain ⟨a, b, c, d, e, f, g, k, rfl⟩ := eight xs h2
  refine ⟨a, b, c, d, e, f, g, k, ?_, h3 a (by simp), h3 b (by simp), h3 c (by simp), h3 d (by simp), h3 e (by simp), h3 f (by simp), h3 g (by simp), h3 k (by simp)⟩
  obtain ⟨l⟩ := cs
  simp only [List.map_cons, List.map_nil] at h1
  subst h1
  rfl

set_option maxRecDepth 100000 in
theorem symmetric_lifted (os : Os) (started : os.Started) (H : Type) (enc : TypeId × Value → H) :
    ReturnsInHanded {} Try.checked os 4 .any (Rows.sightSymmetricSpec.pre6 enc Try.prog Try.f4 [] false) (Rows.sightSymmetricSpec.post enc Try.prog Try.f4 false true false false) := by
  refine law_lifted (C := Try.checked) own started (by kernel_rfl) Try.func4 rfl (fun ds hds => ?_) (tb := 4) (by kernel_rfl) Try.underlying4 laidOut (fun t ht => ?_)
    (ChangeSpec.witness6 (enc := enc) (C := Try.checked) false ⟨#[], #[.agg #[.int .u16 0, .int .u16 0, .int .u16 0, .int .u16 0, .int .u16 0, .int .u16 0, .int .u16 0, .int .u16 0]], []⟩ 8 (by kernel_rfl) (by kernel_rfl) (by kernel_rfl) (by kernel_rfl)) ?_
  · rw [Try.params4] at hds
    match ds, hds with
    | [_], _ => rfl
  · have := List.all_eq_true.1 (show (Try.f4.params.toList.all fun t => Try.prog.readableRec t && decide (t < Try.prog.types.size)) = true by kernel_rfl) t ht
    simp only [Bool.and_eq_true, decide_eq_true_eq] at this
    exact this
  · intro W args g
    rw [Try.params4] at g
    obtain ⟨v0, q0, e0, g0, h0⟩ := g.cons_inv
    obtain rfl := h0.nil_inv
    obtain rfl : args = #[v0] := by cases args; simp_all
    obtain ⟨c0, y0, rfl, r0⟩ := g0.arr Try.underlying35 opens8
    obtain ⟨a, b, c, d, e, f, g, k, e0, x1, x2, x3, x4, x5, x6, x7, x8⟩ := arr8_of r0
    rw [e0]
    exact symmetric_walk _ _ _ _ _ _ _ _ W x1 x2 x3 x4 x5 x6 x7 x8

theorem sightSymmetric_holds : Rows.SightSymmetricSaid :=
  OpenClaim.holds_of_wide 4 Try.f4 rfl rfl rfl rfl rfl rfl rfl ⟨rfl, rfl, rfl, rfl, rfl⟩ rfl rfl rfl rfl rfl (by kernel_rfl) Try.func4 (by kernel_rfl)
    (of_decide_eq_true (by kernel_rfl)) (by unfold Func.isWrapper; first | (rw [if_pos (by decide +kernel)]; kernel_rfl) | (rw [if_neg (by decide +kernel)]; exact ⟨rfl, rfl⟩))
    (fun os started H enc _ => symmetric_lifted os started H enc)
#print axioms sightSymmetric_holds
end Go.Proofs.Ytbphalaajhnnjaa
