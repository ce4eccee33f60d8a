/- The law's example: w09Titles is true. -/
import Derived.Test.YtojkpoikamcgkaaDoorOwnFk
namespace Go.Proofs.YtojkpoikamcgkaaDoor
open Go.RowKit Go.Shelf
set_option linter.unusedVariables false
set_option linter.unusedSimpArgs false
attribute [local go_sem] ext_cell ext_frozen lt_ext ext_drew

def sA : ByteArray := ⟨#[97]⟩
def sB : ByteArray := ⟨#[98]⟩
def sC : ByteArray := ⟨#[99]⟩
def sD : ByteArray := ⟨#[100]⟩
set_option maxRecDepth 100000 in
theorem p_ab : publicL sA ≠ publicL sB := by decide +kernel
set_option maxRecDepth 100000 in
theorem p_ac : publicL sA ≠ publicL sC := by decide +kernel
set_option maxRecDepth 100000 in
theorem p_bc : publicL sB ≠ publicL sC := by decide +kernel
set_option maxRecDepth 100000 in
theorem p_ad : publicL sA ≠ publicL sD := by decide +kernel
set_option maxRecDepth 100000 in
theorem p_bd : publicL sB ≠ publicL sD := by decide +kernel
def K0T : ByteArray := mkB (publicL sA)
set_option maxRecDepth 100000 in
theorem m_bd : messageL 10001 0 K0T [] (mkB (publicL sB)) ≠ messageL 10001 0 K0T [] (mkB (publicL sD)) := by decide +kernel
theorem apart3 : ApartT [sA, sB, sC] 3 := fun i j hij hj => by
  rcases i with _ | _ | i
  · rcases j with _ | _ | _ | j
    · omega
    · exact p_ab
    · exact p_ac
    · omega
  · rcases j with _ | _ | _ | j
    · omega
    · omega
    · exact p_bc
    · omega
  · omega
theorem apartB : ApartT [sA, sB] 2 := fun i j hij hj => by
  obtain rfl : i = 0 := by omega
  obtain rfl : j = 1 := by omega
  exact p_ab
theorem apartD : ApartT [sA, sD] 2 := fun i j hij hj => by
  obtain rfl : i = 0 := by omega
  obtain rfl : j = 1 := by omega
  exact p_ad
theorem chT_sig (se sh : Int) (ss : List ByteArray) : ∀ k, ∀ x ∈ chT se sh ss k, x.2.length = 18
  | 0 => fun x hx => absurd hx (by simp [chT])
  | k + 1 => fun x hx => by
    rw [chT, List.mem_append, List.mem_singleton] at hx
    rcases hx with hx | rfl
    · exact chT_sig se sh ss k x hx
    · show ((signL _ _).map mkB).length = 18
      rw [List.length_map, signL_len]
theorem sameT_self : ∀ l : List Tr, sameT l l = true
  | [] => rfl
  | x :: l => by
    have h : sameT l l = true := sameT_self l
    unfold sameT at h ⊢
    rw [List.zip_cons_cons, List.all_cons, h]
    simp [eqT]
theorem chT_one (ss : List ByteArray) : (chT 10001 0 ss 2).take 1 = chT 10001 0 ss 1 := by
  rw [show chT 10001 0 ss 2 = chT 10001 0 ss 1 ++ [nextT 10001 0 (keyT ss 0) (chT 10001 0 ss 1) (keyT ss 2) (secT ss 1)] from rfl]
  exact List.take_left' (chT_len _ _ _ _)
theorem same_short : sameT ((chT 10001 0 [sA, sB, sC] 2).take 1) (chT 10001 0 [sA, sB] 1) = true := by
  rw [chT_one]
  exact sameT_self _
theorem key_ne : ((mkB (publicL sB)).toList == (mkB (publicL sD)).toList) = false := by
  rw [eq_bytes]
  exact decide_eq_false p_bd
theorem same_fork : sameT ((chT 10001 0 [sA, sB, sC] 2).take 1) (chT 10001 0 [sA, sD] 1) = false := by
  rw [chT_one]
  show (eqT (nextT 10001 0 K0T [] (mkB (publicL sB)) sA) (nextT 10001 0 K0T [] (mkB (publicL sD)) sA) && true) = false
  unfold eqT
  show ((((mkB (publicL sB)).toList == (mkB (publicL sD)).toList) && _) && true) = false
  rw [key_ne]
  rfl
theorem first_right (key : ByteArray) : verifyL K0T.data.toList (messageL 10001 0 K0T [] key) (bytesL (nextT 10001 0 K0T [] key sA).2) = true := by
  show verifyL (publicL sA) (messageL 10001 0 K0T [] key) (bytesL ((signL sA (messageL 10001 0 K0T [] key)).map mkB)) = true
  rw [bytes_mkB, verify_sign]
end Go.Proofs.YtojkpoikamcgkaaDoor
