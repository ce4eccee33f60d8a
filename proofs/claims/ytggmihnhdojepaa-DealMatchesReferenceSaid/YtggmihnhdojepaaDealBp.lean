/- What bookings say of balances, in plain numbers. -/
import Derived.Test.YtggmihnhdojepaaDealAc
import Derived.Test.YtggmihnhdojepaaDealQ
namespace Go.Proofs.Ytggmihnhdojepaa
open Go.RowKit Go.ChangeAt
set_option linter.unusedVariables false
set_option linter.unusedSimpArgs false
attribute [local go_sem] ext_cell ext_frozen lt_ext ext_drew
theorem refund0 {ls : List Ln} {total amount : Int} {ms : List Mn} (h : refundE ls total amount ms = 0) : rightB ls total = true ∧ 0 ≤ amount ∧ totB ms = true ∧ amount ≤ total ∧ sumM ms = amount := by
  unfold refundE at h
  by_cases h1 : rightB ls total = true ∧ 0 ≤ amount ∧ totB ms = true
  · rw [if_pos h1] at h
    by_cases h2 : amount ≤ total ∧ sumM ms = amount
    · exact ⟨h1.1, h1.2.1, h1.2.2, h2.1, h2.2⟩
    · rw [if_neg h2] at h; exact absurd h (by decide)
  · rw [if_neg h1] at h; exact absurd h (by decide)
theorem backL_bd {n a b c : Int} (hn : goodW n) (ha : goodW a) (hb : goodW b) (hc : goodW c) (h0 : 0 < a + b + c) : ∀ p ∈ backL n a b c, -3000000000 ≤ p.2 ∧ p.2 ≤ 3000000000 := by
  obtain ⟨⟨a1, a2⟩, ⟨b1, b2⟩, ⟨c1, c2⟩⟩ := split_le hn ha hb hc h0
  exact parts_bd ⟨by omega, by omega, by omega⟩
theorem refundL_bd {ls : List Ln} {total amount : Int} {ms : List Mn} : ∀ p ∈ refundL ls total amount ms, -3000000000 ≤ p.2 ∧ p.2 ≤ 3000000000 := fun p hp => by
  unfold refundL at hp
  by_cases h : refundE ls total amount ms = 0
  · rw [if_pos h, List.mem_append] at hp
    obtain ⟨h1, h2, h3, h4, h5⟩ := refund0 h
    obtain ⟨hall, hsum, ht0, ht1⟩ := right_out h1
    have b1 := partOf_bd 1 ls hall
    have b2 := partOf_bd 2 ls hall
    have b3 := partOf_bd 3 ls hall
    have hp3 := parts_sum ls hall
    rcases hp with hp | hp
    · exact pay_bd (totB_out h3).2 (.inl rfl) p hp
    · by_cases h0 : total = 0
      · rw [if_pos h0] at hp; cases hp
      · rw [if_neg h0] at hp
        exact backL_bd ⟨h2, by omega⟩ ⟨b1.1, by omega⟩ ⟨b2.1, by omega⟩ ⟨b3.1, by omega⟩ (by omega) p hp
  · rw [if_neg h] at hp; cases hp
theorem refundL_len (ls : List Ln) (total amount : Int) (ms : List Mn) : (refundL ls total amount ms).length ≤ 15 := by
  unfold refundL
  by_cases h : refundE ls total amount ms = 0
  · rw [if_pos h, List.length_append]
    have h1 := post_len (ms.map fun m => (((5 : Int), m.1), 1 * m.2))
    have h3 := (totB_out (refund0 h).2.2.1).1
    rw [List.length_map] at h1
    have h2 : (if total = 0 then [] else backL amount (partOf 1 ls) (partOf 2 ls) (partOf 3 ls)).length ≤ 3 := by
      split
      · simp
      · unfold backL partsL
        have := post_len [((2, noName), -(splitP amount (partOf 1 ls) (partOf 2 ls) (partOf 3 ls)).1), ((1, noName), -(splitP amount (partOf 1 ls) (partOf 2 ls) (partOf 3 ls)).2.1), ((3, noName), -(splitP amount (partOf 1 ls) (partOf 2 ls) (partOf 3 ls)).2.2)]
        simpa using this
    unfold payL
    omega
  · rw [if_neg h]; simp
theorem post_nz (ps : List Pst) : ∀ p ∈ postL ps, p.2 ≠ 0 := fun p hp => by
  have := (List.mem_filter.1 hp).2
  simpa [nzP] using this
theorem app_nz {a b : List Pst} (ha : ∀ p ∈ a, p.2 ≠ 0) (hb : ∀ p ∈ b, p.2 ≠ 0) : ∀ p ∈ a ++ b, p.2 ≠ 0 := fun p hp => by
  rcases List.mem_append.1 hp with h | h
  · exact ha p h
  · exact hb p h
theorem names_nodup {ms : List Mn} (h : okM ms = true) : (ms.map fun m => m.1).Nodup := by
  rw [List.Nodup, List.pairwise_iff_getElem]
  intro i j hi hj hij
  rw [List.length_map] at hi hj
  have h1 := okM_at h (List.getElem?_eq_getElem hj)
  unfold hasM at h1
  rw [List.any_eq_false] at h1
  rw [List.getElem_map, List.getElem_map]
  have hm : ms[i] ∈ ms.take j := List.mem_of_getElem? (i := i) (by rw [List.getElem?_take_of_lt hij]; exact List.getElem?_eq_getElem hi)
  have := h1 _ hm
  simpa using this
theorem post_nodup {ps : List Pst} (h : (ps.map fun p => p.1).Nodup) : ((postL ps).map fun p => p.1).Nodup := h.sublist (List.Sublist.map _ (List.filter_sublist))
theorem pay_names (ms : List Mn) (s : Int) : ((ms.map fun m => (((5 : Int), m.1), s * m.2)).map fun p : Pst => p.1) = (ms.map fun m => m.1).map fun x => ((5 : Int), x) := by
  rw [List.map_map, List.map_map]
  rfl
theorem join_nodup {ms : List Mn} {s : Int} {qs : List Pst} (h : okM ms = true) (hq : (qs.map fun p => p.1).Nodup) (h5 : ∀ p ∈ qs, p.1.1 ≠ 5) : ((payL ms s ++ postL qs).map fun p => p.1).Nodup := by
  have e : payL ms s ++ postL qs = postL ((ms.map fun m => (((5 : Int), m.1), s * m.2)) ++ qs) := by
    unfold payL postL
    rw [List.filter_append]
  rw [e]
  refine post_nodup ?_
  rw [List.map_append, pay_names, List.nodup_append]
  refine ⟨?_, hq, ?_⟩
  · exact (List.pairwise_map.2 ((names_nodup h).imp fun hab he => hab (by injection he)))
  · intro a ha b hb he
    rw [List.mem_map] at ha hb
    obtain ⟨x, _, rfl⟩ := ha
    obtain ⟨p, hp, rfl⟩ := hb
    exact h5 p hp (by rw [← he])
theorem parts_in (a b c : Int) : ([((2, noName), a), ((1, noName), b), ((3, noName), c)].map fun p : Pst => p.1).Nodup ∧ ∀ p ∈ [(((2 : Int), noName), a), ((1, noName), b), ((3, noName), c)], p.1.1 ≠ 5 := by
  refine ⟨by simp, fun p hp => ?_⟩
  simp only [List.mem_cons, List.not_mem_nil, or_false] at hp
  rcases hp with rfl | rfl | rfl <;> simp
theorem sale_bal (ls : List Ln) (total : Int) (pn : ByteArray) (ms : List Mn) : (∀ p ∈ saleL ls total pn ms, p.2 ≠ 0) ∧ ((saleL ls total pn ms).map fun p => p.1).Nodup := by
  unfold saleL
  by_cases h : saleE ls total pn ms = 0
  · rw [if_pos h]
    exact ⟨app_nz (post_nz _) (post_nz _), join_nodup (totB_out (sale0 h).2.2.1).2 (parts_in _ _ _).1 (parts_in _ _ _).2⟩
  · rw [if_neg h]; simp
theorem refund_bal (ls : List Ln) (total amount : Int) (ms : List Mn) : (∀ p ∈ refundL ls total amount ms, p.2 ≠ 0) ∧ ((refundL ls total amount ms).map fun p => p.1).Nodup := by
  unfold refundL
  by_cases h : refundE ls total amount ms = 0
  · rw [if_pos h]
    have hok := (totB_out (refund0 h).2.2.1).2
    by_cases h0 : total = 0
    · rw [if_pos h0]
      refine ⟨app_nz (post_nz _) (by simp), ?_⟩
      have := join_nodup (s := 1) (qs := []) hok (by simp) (by simp)
      simpa [postL] using this
    · rw [if_neg h0]
      exact ⟨app_nz (post_nz _) (post_nz _), join_nodup hok (parts_in _ _ _).1 (parts_in _ _ _).2⟩
  · rw [if_neg h]; simp
theorem resale_bal (n : Int) (ls : List Ln) (total cn cd sn sd : Int) (pn : ByteArray) (ms : List Mn) : (∀ p ∈ resaleL n ls total cn cd sn sd pn ms, p.2 ≠ 0) ∧ ((resaleL n ls total cn cd sn sd pn ms).map fun p => p.1).Nodup := by
  unfold resaleL
  by_cases h : resaleE n ls total cn cd sn sd pn ms = 0
  · rw [if_pos h]
    refine ⟨app_nz (post_nz _) (post_nz _), join_nodup (totB_out (resale0 h).2.1).2 (by simp) (fun p hp => ?_)⟩
    simp only [List.mem_cons, List.not_mem_nil, or_false] at hp
    rcases hp with rfl | rfl <;> simp
  · rw [if_neg h]; simp
theorem err_none {er : Int} {L : List Pst} (h : er ≠ 0 → L = []) : er = 0 ∨ ((er != 0) = true ∧ L = []) := by
  by_cases e : er = 0
  · exact .inl e
  · exact .inr ⟨by simpa using e, h e⟩
section
variable {A : Option Addr} {cap n : Nat} {L : List Pst} {w : World} {B : Nat}
theorem bal_in (h : Elems tPst w B A L) (hB : B ≤ w.heap.size) (hn : n = L.length) (hl : n ≤ 15) (hnz : ∀ p ∈ L, p.2 ≠ 0) (hbd : ∀ p ∈ L, -3000000000 ≤ p.2 ∧ p.2 ≤ 3000000000) (hnd : (L.map fun p => p.1).Nodup) (hsum : sumP L = 0) :
    ∀ X, Below w.heap.size w X → Calls Try.prog 19 #[.agg #[.int .i64 0, .slice A n cap]] X fun e w' => e = .returned (.bool true) ∧ Below X.heap.size X w' := fun X hX =>
  balanced_any A cap n L X B (h.keep (hX.mono hB) (Nat.le_refl _)) (by have := hX.size; omega) hn hl hnz hbd hnd hsum
end
end Go.Proofs.Ytggmihnhdojepaa
