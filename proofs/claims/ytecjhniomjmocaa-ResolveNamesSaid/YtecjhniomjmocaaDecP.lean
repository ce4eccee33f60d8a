/- Layer 13 (decide), in plain words: zones, rules, what holds. No program is named here. -/
import Derived.Test.YtecjhniomjmocaaArr
namespace Go.Proofs.Ytecjhniomjmocaa
open Go.RowKit
set_option linter.unusedVariables false
set_option linter.unusedSimpArgs false

abbrev Rg := Int × Int
abbrev Zn := List Rg
abbrev Fc := List Int
/-- A rule: kind, name, zones, N, R, S. -/
abbrev Rl := Int × ByteArray × List Zn × Int × (Int × Int) × (Int × Int)
def inR (r : Rg) (n : Int) : Bool := decide (r.1 ≤ n) && decide (n ≤ r.2)
def atR (z : Zn) (i : Nat) : Rg := z.getD i (0, 0)
def atF (f : Fc) (i : Nat) : Int := f.getD i 0
def inZ (z : Zn) (f : Fc) : Bool := (List.range 10).all fun i => inR (atR z i) (atF f i)
def holdsB (r : Rl) (f : Fc) : Bool := r.2.2.1.any fun z => inZ z f

theorem atR_get {z : Zn} {k : Nat} (h : k < z.length) : z[k]? = some (atR z k) := by
  unfold atR; rw [List.getD_eq_getElem?_getD, List.getElem?_eq_getElem h]; rfl
theorem atF_get {z : Fc} {k : Nat} (h : k < z.length) : z[k]? = some (atF z k) := by
  unfold atF; rw [List.getD_eq_getElem?_getD, List.getElem?_eq_getElem h]; rfl
theorem inZ_bad {z : Zn} {f : Fc} {k : Nat} (hk : k < 10) (h : inR (atR z k) (atF f k) = false) : inZ z f = false := by
  unfold inZ
  rw [List.all_eq_false]
  exact ⟨k, List.mem_range.2 hk, by rw [h]; decide⟩
theorem inZ_all {z : Zn} {f : Fc} (h : ∀ k, k < 10 → inR (atR z k) (atF f k) = true) : inZ z f = true := by
  unfold inZ
  exact List.all_eq_true.2 fun k hk => h k (List.mem_range.1 hk)

/-! ### readers -/
abbrev tRg : Ty Rg := tPair tInt tInt
abbrev tZn : Ty Zn := tArr 10 tRg
abbrev tFc : Ty Fc := tArr 10 tInt
abbrev tRat : Ty (Int × Int) := tPair tInt tInt
abbrev tRl : Ty Rl := tPair tInt (tPair tStr (tPair (tSlice tZn) (tPair tInt (tPair tRat tRat))))

theorem zn_cells {w : World} {B : Nat} {cs : List Value} {z : Zn} (h : tZn.rd w B cs z) : cs = pairsV z ∧ z.length = 10 ∧ ∀ r ∈ z, fits r.1 ∧ fits r.2 := by
  obtain ⟨h1, h2, h3⟩ := h
  have hel : ∀ i (hi : i < z.length), (cs.drop (i * 2)).take 2 = [.int .i64 z[i].1, .int .i64 z[i].2] ∧ fits z[i].1 ∧ fits z[i].2 := fun i hi => by
    obtain ⟨c1, c2, e, ⟨e1, f1⟩, ⟨e2, f2⟩⟩ := h3 i hi
    have e' : (cs.drop (i * 2)).take 2 = c1 ++ c2 := e
    refine ⟨?_, f1, f2⟩
    rw [e', e1, e2]; rfl
  refine ⟨?_, h2, fun r hr => ?_⟩
  · apply List.ext_getElem?
    intro j
    have hl : cs.length = 20 := h1
    by_cases hj : j < 20
    · have hi : j / 2 < z.length := by omega
      have e := (hel (j / 2) hi).1
      have hp := pairsV_at (List.getElem?_eq_getElem hi)
      have g0 : cs[j / 2 * 2]? = some (.int .i64 z[j / 2].1) := by
        have := congrArg (fun l => l[0]?) e
        simpa [List.getElem?_take, List.getElem?_drop] using this
      have g1 : cs[j / 2 * 2 + 1]? = some (.int .i64 z[j / 2].2) := by
        have := congrArg (fun l => l[1]?) e
        simpa [List.getElem?_take, List.getElem?_drop] using this
      rcases (show j = j / 2 * 2 ∨ j = j / 2 * 2 + 1 by omega) with e9 | e9
      · rw [e9]
        have : j / 2 * 2 / 2 = j / 2 := by omega
        rw [g0, hp.1]
      · rw [e9]
        rw [show (j / 2 * 2 + 1) = j / 2 * 2 + 1 from rfl, g1, hp.2]
    · rw [List.getElem?_eq_none (by omega), List.getElem?_eq_none (by rw [pairsV_len]; omega)]
  · obtain ⟨i, hi, rfl⟩ := List.mem_iff_getElem.1 hr
    exact (hel i hi).2
theorem fc_cells {w : World} {B : Nat} {cs : List Value} {f : Fc} (h : tFc.rd w B cs f) : cs = intsV f ∧ f.length = 10 ∧ ∀ x ∈ f, fits x := by
  obtain ⟨h1, h2, h3⟩ := h
  have hel : ∀ i (hi : i < f.length), (cs.drop (i * 1)).take 1 = [.int .i64 f[i]] ∧ fits f[i] := fun i hi => by
    obtain ⟨e, f1⟩ := h3 i hi
    exact ⟨e, f1⟩
  refine ⟨?_, h2, fun r hr => ?_⟩
  · apply List.ext_getElem?
    intro j
    have hl : cs.length = 10 := h1
    by_cases hj : j < 10
    · have hi : j < f.length := by omega
      have e := (hel j hi).1
      have g0 : cs[j]? = some (.int .i64 f[j]) := by
        have := congrArg (fun l => l[0]?) e
        simpa [List.getElem?_take, List.getElem?_drop] using this
      rw [g0, intsV_at (List.getElem?_eq_getElem hi)]
    · rw [List.getElem?_eq_none (by omega), List.getElem?_eq_none (by rw [intsV_len]; omega)]
  · obtain ⟨i, hi, rfl⟩ := List.mem_iff_getElem.1 hr
    exact (hel i hi).2
end Go.Proofs.Ytecjhniomjmocaa
