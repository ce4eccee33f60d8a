/- Layers 1 and 17 (money, price), in plain numbers: sums; no program is named here. -/
import Derived.Test.YtggmihnhdojepaaMoneyP
namespace Go.Proofs.Ytggmihnhdojepaa
set_option linter.unusedVariables false
set_option linter.unusedSimpArgs false

/-! ### Sums of amounts -/

def sumI (zs : List Int) : Int := zs.foldl (· + ·) 0
theorem sumI_snoc (zs : List Int) (z : Int) : sumI (zs ++ [z]) = sumI zs + z := by simp [sumI, List.foldl_append]
theorem sumI_take {zs : List Int} {k : Nat} {z : Int} (h : zs[k]? = some z) : sumI (zs.take (k + 1)) = sumI (zs.take k) + z := by
  rw [List.take_add_one, h]
  exact sumI_snoc _ _
theorem sumI_bd : ∀ (k : Nat) (zs : List Int), zs.all validB = true → k ≤ zs.length → -(1000000000 * (k : Int)) ≤ sumI (zs.take k) ∧ sumI (zs.take k) ≤ 1000000000 * (k : Int)
  | 0, zs, _, _ => by simp [sumI]
  | k + 1, zs, h, hk => by
    have hz : zs[k]? = some zs[k] := List.getElem?_eq_getElem (by omega)
    have := sumI_bd k zs h (by omega)
    have hv := validB_out (List.all_eq_true.1 h zs[k] (List.getElem_mem _))
    rw [sumI_take hz]
    omega
def sumV (zs : List Int) : Int := if zs.all validB && validB (sumI zs) then sumI zs else 0
def sumE (zs : List Int) : Int := if zs.all validB then (if validB (sumI zs) then 0 else 2) else 1
end Go.Proofs.Ytggmihnhdojepaa
