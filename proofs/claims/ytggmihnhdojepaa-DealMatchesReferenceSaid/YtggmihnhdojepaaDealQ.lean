/- What a resale says of its parts, in plain numbers. -/
import Derived.Test.YtggmihnhdojepaaDealZ
namespace Go.Proofs.Ytggmihnhdojepaa
open Go.RowKit Go.ChangeAt
set_option linter.unusedVariables false
set_option linter.unusedSimpArgs false
attribute [local go_sem] ext_cell ext_frozen lt_ext ext_drew
theorem round_top {x d n : Int} (hd : 0 < d) (h : x ≤ n * d) : roundP x d ≤ n := by
  have h1 : x / d ≤ n := by
    have := Int.ediv_le_ediv hd h
    rwa [Int.mul_ediv_cancel _ (by omega)] at this
  unfold roundP
  split
  · rename_i hc
    rcases Int.lt_or_eq_of_le h1 with h2 | h2
    · omega
    · exfalso
      have h3 := Int.mul_ediv_add_emod x d
      rw [h2, Int.mul_comm d n] at h3
      have h4 := Int.emod_nonneg x (show d ≠ 0 by omega)
      omega
  · exact h1
theorem resale0 {n : Int} {ls : List Ln} {total cn cd sn sd : Int} {pn : ByteArray} {ms : List Mn} (h : resaleE n ls total cn cd sn sd pn ms = 0) :
    0 ≤ n ∧ totB ms = true ∧ shareE n sn sd = 0 ∧ sn ≤ sd ∧ backE 1 ls total cn cd = 0 ∧ n ≤ backV 1 ls total cn cd ∧ sumM ms = n := by
  unfold resaleE at h
  by_cases h1 : 0 ≤ n ∧ totB ms = true ∧ nameB pn = true ∧ shareE n sn sd = 0 ∧ sn ≤ sd ∧ backE 1 ls total cn cd ≠ 1
  · rw [if_pos h1] at h
    by_cases h2 : backE 1 ls total cn cd ≠ 0
    · rw [if_pos h2] at h; exact absurd h h2
    · rw [if_neg h2] at h
      by_cases h3 : backV 1 ls total cn cd < n
      · rw [if_pos h3] at h; exact absurd h (by decide)
      · rw [if_neg h3] at h
        by_cases h4 : sumM ms = n
        · exact ⟨h1.1, h1.2.1, h1.2.2.2.1, h1.2.2.2.2.1, by omega, by omega, h4⟩
        · rw [if_neg h4] at h; exact absurd h (by decide)
  · rw [if_neg h1] at h; exact absurd h (by decide)
theorem resale15 {n : Int} {ls : List Ln} {total cn cd sn sd : Int} {pn : ByteArray} {ms : List Mn} (h : resaleE n ls total cn cd sn sd pn ms = 15) : backE 1 ls total cn cd = 0 ∧ backV 1 ls total cn cd < n := by
  unfold resaleE at h
  by_cases h1 : 0 ≤ n ∧ totB ms = true ∧ nameB pn = true ∧ shareE n sn sd = 0 ∧ sn ≤ sd ∧ backE 1 ls total cn cd ≠ 1
  · rw [if_pos h1] at h
    by_cases h2 : backE 1 ls total cn cd ≠ 0
    · rw [if_pos h2] at h
      have := backE_is 1 ls total cn cd
      omega
    · rw [if_neg h2] at h
      by_cases h3 : backV 1 ls total cn cd < n
      · exact ⟨by omega, h3⟩
      · rw [if_neg h3] at h
        by_cases h4 : sumM ms = n
        · rw [if_pos h4] at h; exact absurd h (by decide)
        · rw [if_neg h4] at h; exact absurd h (by decide)
  · rw [if_neg h1] at h; exact absurd h (by decide)
theorem share_le {n sn sd : Int} (h0 : 0 ≤ n) (h : shareE n sn sd = 0) (hs : sn ≤ sd) : shareV n sn sd ≤ n := by
  obtain ⟨_, h2, _, h4⟩ := share_zero h
  rw [h4]
  have := ratioB_out h2
  exact round_top (d := sd) (by omega) (Int.mul_le_mul_of_nonneg_left hs h0)
theorem resaleL_bd {n : Int} {ls : List Ln} {total cn cd sn sd : Int} {pn : ByteArray} {ms : List Mn} : ∀ p ∈ resaleL n ls total cn cd sn sd pn ms, -3000000000 ≤ p.2 ∧ p.2 ≤ 3000000000 := fun p hp => by
  unfold resaleL at hp
  by_cases h : resaleE n ls total cn cd sn sd pn ms = 0
  · rw [if_pos h, List.mem_append] at hp
    obtain ⟨h1, h2, h3, h4, _⟩ := resale0 h
    obtain ⟨s1, s2, s3, s4⟩ := share_zero h3
    rcases hp with hp | hp
    · exact pay_bd (totB_out h2).2 (.inr rfl) p hp
    · have := post_mem hp
      simp only [List.mem_cons, List.not_mem_nil, or_false] at this
      rcases this with rfl | rfl
      · exact ⟨by show _ ≤ shareV n sn sd; omega, by show shareV n sn sd ≤ _; omega⟩
      · exact ⟨by show _ ≤ n - shareV n sn sd; omega, by show n - shareV n sn sd ≤ _; omega⟩
  · rw [if_neg h] at hp; cases hp
theorem resaleL_len (n : Int) (ls : List Ln) (total cn cd sn sd : Int) (pn : ByteArray) (ms : List Mn) : (resaleL n ls total cn cd sn sd pn ms).length ≤ 15 := by
  unfold resaleL
  by_cases h : resaleE n ls total cn cd sn sd pn ms = 0
  · rw [if_pos h, List.length_append]
    have h1 := post_len (ms.map fun m => (((5 : Int), m.1), -1 * m.2))
    have h2 := post_len [((2, noName), shareV n sn sd), ((6, pn), n - shareV n sn sd)]
    have h3 := (totB_out (resale0 h).2.1).1
    rw [List.length_map] at h1
    unfold payL
    simp only [List.length_cons, List.length_nil] at h2
    omega
  · rw [if_neg h]; simp
theorem resale_to {n : Int} {ls : List Ln} {total cn cd sn sd : Int} {pn : ByteArray} {ms : List Mn} (h : resaleE n ls total cn cd sn sd pn ms = 0) : toP (resaleL n ls total cn cd sn sd pn ms) 2 noName = shareV n sn sd ∧ toP (resaleL n ls total cn cd sn sd pn ms) 6 pn = n - shareV n sn sd ∧ toP (resaleL n ls total cn cd sn sd pn ms) 1 noName = 0 ∧ toP (resaleL n ls total cn cd sn sd pn ms) 3 noName = 0 := by
  have e : postL [((2, noName), shareV n sn sd), ((6, pn), n - shareV n sn sd)] = postL [((2, noName), shareV n sn sd)] ++ postL [((6, pn), n - shareV n sn sd)] := by
    unfold postL
    rw [← List.filter_append]
    rfl
  unfold resaleL
  rw [if_pos h, e]
  refine ⟨?_, ?_, ?_, ?_⟩ <;> rw [toP_app, toP_app, toP_pay_other _ _ _ _ (by decide), toP_post, toP_post] <;> simp
section
variable {w : World}
theorem share_in (n a b v e' : Int) (h1 : shareV n a b = v) (h2 : shareE n a b = e') : ∀ X, Calls Try.prog 23 #[.int .i64 n, .agg #[.int .i64 a, .int .i64 b]] X fun e w' => e = .returned (.tuple #[.int .i64 v, .int .i64 e']) ∧ Below X.heap.size X w' := fun X => by
  have := share_any n a b X
  rwa [h1, h2] at this
end
end Go.Proofs.Ytggmihnhdojepaa
