/- Layer 12 (resolve), in plain words: facts lie in a zone of a rule exactly if the tests of one of its alternatives hold. -/
import Derived.Test.YtecjhniomjmocaaResRe
namespace Go.Proofs.Ytecjhniomjmocaa
open Go.RowKit
set_option linter.unusedVariables false
set_option linter.unusedSimpArgs false

theorem inR_iff (r : Rg) (v : Int) : inR r v = true ↔ r.1 ≤ v ∧ v ≤ r.2 := by unfold inR; simp
theorem cand_in {r : Rg} {op n v : Int} (h1 : 1 ≤ op) (h6 : op ≤ 6) : ((withinP r op n).any fun s => inR s v) = (inR r v && opB op v n) := by
  rw [Bool.eq_iff_iff, List.any_eq_true, Bool.and_eq_true, inR_iff]
  have hop : op = 1 ∨ op = 2 ∨ op = 3 ∨ op = 4 ∨ op = 5 ∨ op = 6 := by omega
  unfold withinP
  constructor
  · rintro ⟨s, hs, hv⟩
    rw [List.mem_filter] at hs
    rw [inR_iff] at hv
    obtain ⟨hs, _⟩ := hs
    rcases hop with rfl | rfl | rfl | rfl | rfl | rfl <;> simp [candP] at hs <;> simp only [opB] <;> (first | (subst hs; simp only at hv; simp; omega) | (rcases hs with rfl | rfl <;> simp only at hv <;> simp <;> omega))
  · rintro ⟨hv, ho⟩
    have key : ∃ s ∈ candP r op n, inR s v = true := by
      rcases hop with rfl | rfl | rfl | rfl | rfl | rfl <;> simp [opB] at ho
      · exact ⟨(max r.1 n, min r.2 n), by simp [candP], by rw [inR_iff]; simp only; omega⟩
      · by_cases hlt : v < n
        · exact ⟨(r.1, min r.2 (n - 1)), by simp [candP], by rw [inR_iff]; simp only; omega⟩
        · exact ⟨(max r.1 (n + 1), r.2), by simp [candP], by rw [inR_iff]; simp only; omega⟩
      · exact ⟨(r.1, min r.2 (n - 1)), by simp [candP], by rw [inR_iff]; simp only; omega⟩
      · exact ⟨(r.1, min r.2 n), by simp [candP], by rw [inR_iff]; simp only; omega⟩
      · exact ⟨(max r.1 (n + 1), r.2), by simp [candP], by rw [inR_iff]; simp only; omega⟩
      · exact ⟨(max r.1 n, r.2), by simp [candP], by rw [inR_iff]; simp only; omega⟩
    obtain ⟨s, hs, hv2⟩ := key
    refine ⟨s, List.mem_filter.2 ⟨hs, ?_⟩, hv2⟩
    rw [inR_iff] at hv2
    simpa using (show s.1 ≤ s.2 by omega)
theorem inZ_iff (z : Zn) (f : Fc) : inZ z f = true ↔ ∀ k, k < 10 → inR (atR z k) (atF f k) = true := by
  unfold inZ
  rw [List.all_eq_true]
  exact ⟨fun h k hk => h k (by simpa using hk), fun h k hk => h k (by simpa using hk)⟩
theorem step_in {z : Zn} {a : Nat} {op n : Int} {f : Fc} (hz : z.length = 10) (ha : a < 10) (h1 : 1 ≤ op) (h6 : op ≤ 6) : ((stepZ z a op n).any fun y => inZ y f) = (inZ z f && opB op (atF f a) n) := by
  have hc := cand_in (r := atR z a) (op := op) (n := n) (v := atF f a) h1 h6
  unfold stepZ
  rw [List.any_map]
  rw [Bool.eq_iff_iff, List.any_eq_true, Bool.and_eq_true]
  rw [Bool.eq_iff_iff, List.any_eq_true, Bool.and_eq_true] at hc
  constructor
  · rintro ⟨s, hs, hv⟩
    simp only [Function.comp] at hv
    rw [inZ_iff] at hv
    have hva := hv a ha
    rw [atR_set (by omega), if_pos rfl] at hva
    obtain ⟨k1, k2⟩ := hc.1 ⟨s, hs, hva⟩
    refine ⟨(inZ_iff z f).2 fun k hk => ?_, k2⟩
    by_cases e : k = a
    · subst e; exact k1
    · have := hv k hk
      rwa [atR_set (by omega), if_neg e] at this
  · rintro ⟨hv, ho⟩
    rw [inZ_iff] at hv
    obtain ⟨s, hs, hsv⟩ := hc.2 ⟨hv a ha, ho⟩
    refine ⟨s, hs, ?_⟩
    simp only [Function.comp]
    rw [inZ_iff]
    intro k hk
    rw [atR_set (by omega)]
    split
    · rename_i e; subst e; exact hsv
    · exact hv k hk
theorem next_in {L : Nm} {t : Ts} {f : Fc} (h0 : (numP L t).1 = 0) : ∀ {out : List Zn}, (∀ z ∈ out, okZn z) → ((nextZ L out t).any fun y => inZ y f) = ((out.any fun y => inZ y f) && tstB L f t)
  | [], _ => rfl
  | z :: out, h => by
    obtain ⟨n1, _, _, n4, n5⟩ := num_out h0
    have e : nextZ L (z :: out) t = stepZ z (numP L t).2.1 t.2.1 (numP L t).2.2 ++ nextZ L out t := by simp [nextZ]
    rw [e, List.any_append, step_in (h z (by simp)).1 n1 n4 n5, next_in h0 (fun y hy => h y (by simp [hy])), List.any_cons]
    unfold tstB
    cases inZ z f <;> cases (out.any fun y => inZ y f) <;> cases opB t.2.1 (atF f (numP L t).2.1) (numP L t).2.2 <;> rfl
theorem fold_in {L : Nm} {f : Fc} : ∀ (l : List Ts) (out : List Zn), badT L l = none → (∀ z ∈ out, okZn z) → ((l.foldl (nextZ L) out).any fun y => inZ y f) = ((out.any fun y => inZ y f) && l.all (tstB L f))
  | [], out, _, _ => by simp
  | t :: l, out, hb, h => by
    unfold badT at hb
    by_cases h0 : (numP L t).1 = 0
    · rw [if_pos h0] at hb
      rw [List.foldl_cons, fold_in l _ hb (next_ok h), next_in h0 h, List.all_cons, Bool.and_assoc]
    · rw [if_neg h0] at hb; cases hb
theorem zonesP_in {L : Nm} {f : Fc} {l : List Ts} (hb : badT L l = none) (hl : inZ limZ f = true) : ((zonesP L l).any fun y => inZ y f) = l.all (tstB L f) := by
  unfold zonesP
  rw [fold_in l [limZ] hb (by intro z hz; simp at hz; subst hz; exact limZ_ok)]
  simp [hl]
theorem zonesI_in {L : Nm} {f : Fc} {x : It} (hb : badW L x.2.2.1 = none) (hl : inZ limZ f = true) : ((zonesI L x).any fun y => inZ y f) = metB L f x.2.2.1 := by
  unfold zonesI metB
  by_cases h : x.2.2.1 = []
  · rw [if_pos h, h]
    simp [hl]
  · rw [if_neg h, decide_eq_false h, Bool.or_false]
    have hn := badW_none hb
    generalize x.2.2.1 = ws at hn
    clear h hb
    induction ws with
    | nil => rfl
    | cons l r ih =>
      rw [List.flatMap_cons, List.any_append, List.any_cons, zonesP_in (hn l (by simp)) hl, ih (fun l hl => hn l (by simp [hl]))]
end Go.Proofs.Ytecjhniomjmocaa
