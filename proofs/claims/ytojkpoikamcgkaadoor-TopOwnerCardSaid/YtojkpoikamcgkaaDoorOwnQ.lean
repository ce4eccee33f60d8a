/- Layer 3 (sign): the links of walk. -/
import Derived.Test.YtojkpoikamcgkaaDoorOwnO
namespace Go.Proofs.YtojkpoikamcgkaaDoor
open Go.RowKit Go.Shelf
set_option linter.unusedVariables false
set_option linter.unusedSimpArgs false
attribute [local go_sem] ext_cell ext_frozen lt_ext ext_drew

set_option maxRecDepth 100000 in
set_option maxHeartbeats 1000000 in
theorem public1_any (i : Nat) (w : World) : Calls Tryd.prog 46 #[.int .i64 (i : Int)] w fun e w' => e = .returned (.int .i64 15) ∧ Below w.heap.size w w' := by
  go_enter Tryd.func46, Tryd.ntmps46
  go_wp2_with fail
  go_ret
  exact ⟨rfl, Below.refl _ _⟩
set_option maxRecDepth 100000 in
set_option maxHeartbeats 1000000 in
theorem sign1_any (i d db : Nat) (ds : List Nat) (w : World) (hb : Bk w db (digV ds) 44) (hlen : ds.length = 18) (hi : ds[i]? = some d) : Calls Tryd.prog 68 #[.int .i64 (i : Int), .pointer (some ⟨db, 0, none⟩)] w fun e w' => e = .returned (.int .i64 (d : Int)) ∧ Below w.heap.size w w' := by
  have hlt : i < 18 := by
    have := (List.getElem?_eq_some_iff.1 hi).1
    omega
  have c1 : w.cell? ⟨db, i, none⟩ = some (.int .i64 d) := by rw [hb.cell, digV_at hi]
  have l1 := hb.lt
  have h1 : (i : Int) < 18 := by omega
  clear hb
  go_enter Tryd.func68, Tryd.ntmps68
  go_wp2_with fail
  go_ret
  exact ⟨rfl, Below.refl _ _⟩
/-- The ends of a secret's chains. -/
def walkL (secret : ByteArray) (d : Nat → Nat) : List (List UInt8) := (List.range 18).map fun i => chainL (d i) (startL secret i)
theorem walkL_take (secret : ByteArray) (d : Nat → Nat) {k : Nat} (hk : k < 18) : (walkL secret d).take (k + 1) = (walkL secret d).take k ++ [chainL (d k) (startL secret k)] := by
  unfold walkL
  rw [List.take_add_one, List.getElem?_map, List.getElem?_range hk]
  rfl
theorem walkL_len (secret : ByteArray) (d : Nat → Nat) : (walkL secret d).length = 18 := by simp [walkL]
end Go.Proofs.YtojkpoikamcgkaaDoor
