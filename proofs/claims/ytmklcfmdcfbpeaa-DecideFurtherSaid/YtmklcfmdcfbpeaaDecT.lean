/- Layer 13 (decide): a decision, but for By, is told by the rules of each kind that hold. No program here. -/
import Derived.Test.YtmklcfmdcfbpeaaDecS
namespace Go.Proofs.Ytmklcfmdcfbpeaa
open Go.RowKit
set_option linter.unusedVariables false
set_option linter.unusedSimpArgs false

/-- The rules of kind q that hold. -/
def heldK (f : Fc) (rs : List Rl) (q : Int) : List Rl := rs.filter fun r => decide (r.1 = q) && holdsB r f
def limS (m : Int) (r : Rl) : Int := if 0 < r.2.2.2.1 ∧ (m = 0 ∨ r.2.2.2.1 < m) then r.2.2.2.1 else m
def limL (l : List Rl) : Int := l.foldl limS 0
/-- The first rule; one that says nothing, if there is none. -/
def hd (l : List Rl) : Rl := l.head?.getD (0, default, [], 0, (0, 1), (0, 1))
def someL (l : List Rl) : Bool := !l.isEmpty
def decG (l : Int → List Rl) (y : Int) : Array Value :=
  decV (someL (l 1) && someL (l 3) && (l 2).isEmpty) (someL (l 6)) (someL (l 7)) (limL (l 1)) (hd (l 3)).2.2.2.1 (hd (l 3)).2.2.2.2.1.1 (hd (l 3)).2.2.2.2.1.2 (hd (l 3)).2.2.2.2.2.1 (hd (l 3)).2.2.2.2.2.2
    (hd (l 4)).2.2.2.2.1.1 (hd (l 4)).2.2.2.2.1.2 (hd (l 4)).2.2.2.2.2.1 (hd (l 4)).2.2.2.2.2.2 (hd (l 5)).2.2.2.2.1.1 (hd (l 5)).2.2.2.2.1.2 y

theorem heldK_take {f : Fc} {rs : List Rl} {k : Nat} {r : Rl} (q : Int) (hr : rs[k]? = some r) : heldK f (rs.take (k + 1)) q = heldK f (rs.take k) q ++ if r.1 = q ∧ holdsB r f = true then [r] else [] := by
  unfold heldK
  rw [List.take_add_one, hr, List.filter_append]
  congr 1
  by_cases h : r.1 = q ∧ holdsB r f = true
  · rw [if_pos h]; simp [h.1, h.2]
  · rw [if_neg h]
    simp only [Option.toList_some, List.filter_cons, List.filter_nil]
    rw [if_neg]
    simpa using h

theorem first_held (f : Fc) (q : Int) (rs : List Rl) : ∀ k, k ≤ rs.length → (firstTo f q rs k = -1 ∧ heldK f (rs.take k) q = []) ∨ (∃ (i : Nat) (r : Rl), firstTo f q rs k = i ∧ i < k ∧ rs[i]? = some r ∧ (heldK f (rs.take k) q).head? = some r ∧ r.1 = q ∧ holdsB r f = true ∧ heldK f (rs.take i) q = [])
  | 0, _ => .inl ⟨rfl, rfl⟩
  | k + 1, hk => by
    have hr : rs[k]? = some rs[k] := List.getElem?_eq_getElem (by omega)
    rcases first_held f q rs k (by omega) with ⟨h1, h2⟩ | ⟨i, r, h1, h2, h3, h4, h5, h6, h7⟩
    · by_cases hc : rs[k].1 = q ∧ holdsB rs[k] f = true
      · right
        refine ⟨k, rs[k], firstTo_hit h1 hr hc, by omega, hr, ?_, hc.1, hc.2, h2⟩
        rw [heldK_take q hr, h2, if_pos hc]; rfl
      · left
        refine ⟨firstTo_miss h1 hr hc, ?_⟩
        rw [heldK_take q hr, h2, if_neg hc]; rfl
    · right
      refine ⟨i, r, ?_, by omega, h3, ?_, h5, h6, h7⟩
      · rw [firstTo_stay (k := k) (by omega) _ (by omega), h1]
      · rw [heldK_take q hr]
        cases hh : heldK f (rs.take k) q with
        | nil => rw [hh] at h4; cases h4
        | cons a l => rw [hh] at h4; exact h4

theorem limL_run {f : Fc} {rs : List Rl} : ∀ k, k ≤ rs.length → (runJ f rs k).lim = limL (heldK f (rs.take k) 1)
  | 0, _ => rfl
  | k + 1, hk => by
    have hr : rs[k]? = some rs[k] := List.getElem?_eq_getElem (by omega)
    rw [lim_step hr, limL_run k (by omega), heldK_take 1 hr]
    by_cases hc : rs[k].1 = 1 ∧ holdsB rs[k] f = true
    · rw [if_pos hc]
      unfold limL
      rw [List.foldl_append]
      simp only [List.foldl_cons, List.foldl_nil, limS, hc.1, hc.2, true_and]
    · rw [if_neg hc, List.append_nil, if_neg (fun h => hc ⟨h.1, h.2.1⟩)]

/-- The index of the first rule of a kind that holds. -/
def fst (f : Fc) (rs : List Rl) (q : Int) : Int := firstTo f q rs rs.length
def byG (f : Fc) (rs : List Rl) : Int := if 0 ≤ fst f rs 2 then fst f rs 2 else fst f rs 1

theorem fst_cases (f : Fc) (rs : List Rl) (q : Int) : (fst f rs q = -1 ∧ heldK f rs q = []) ∨ (∃ (i : Nat) (r : Rl), fst f rs q = i ∧ i < rs.length ∧ rs[i]? = some r ∧ (heldK f rs q).head? = some r ∧ r.1 = q ∧ holdsB r f = true ∧ heldK f (rs.take i) q = []) := by
  have := first_held f q rs rs.length (Nat.le_refl _)
  rwa [List.take_length] at this
theorem fst_some (f : Fc) (rs : List Rl) (q : Int) : decide (0 ≤ fst f rs q) = someL (heldK f rs q) := by
  rcases fst_cases f rs q with ⟨h1, h2⟩ | ⟨i, r, h1, _, _, h4, _⟩
  · rw [h1, h2]; rfl
  · rw [h1]
    cases hh : heldK f rs q with
    | nil => rw [hh] at h4; cases h4
    | cons a l => simp [someL]

theorem dcs_gist (f : Fc) (rs : List Rl) : dcs (runJ f rs rs.length) = decG (heldK f rs) (byG f rs) := by
  have hS := sums_run (f := f) (rs := rs) rs.length (Nat.le_refl _)
  have hlim := limL_run (f := f) (rs := rs) rs.length (Nat.le_refl _)
  rw [List.take_length] at hlim
  generalize runJ f rs rs.length = s at hS hlim
  obtain ⟨tg, si, lim, price, fn, fd, tn, td, cn, cd, sn, sd, rn, rd, pr, so, ba, al, de⟩ := s
  obtain ⟨hal, hde, hpr, hso, hba, htg, hsi, hp1, hp0, hc1, hc0, hb1, hb0⟩ := hS
  change al = fst f rs 1 at hal
  change de = fst f rs 2 at hde
  change pr = decide (0 ≤ fst f rs 3) at hpr
  change tg = decide (0 ≤ fst f rs 6) at htg
  change si = decide (0 ≤ fst f rs 7) at hsi
  change ∀ i : Nat, fst f rs 3 = i → ∃ r, rs[i]? = some r ∧ price = r.2.2.2.1 ∧ fn = r.2.2.2.2.1.1 ∧ fd = r.2.2.2.2.1.2 ∧ tn = r.2.2.2.2.2.1 ∧ td = r.2.2.2.2.2.2 at hp1
  change fst f rs 3 < 0 → price = 0 ∧ fn = 0 ∧ fd = 1 ∧ tn = 0 ∧ td = 1 at hp0
  change ∀ i : Nat, fst f rs 4 = i → ∃ r, rs[i]? = some r ∧ cn = r.2.2.2.2.1.1 ∧ cd = r.2.2.2.2.1.2 ∧ sn = r.2.2.2.2.2.1 ∧ sd = r.2.2.2.2.2.2 at hc1
  change fst f rs 4 < 0 → cn = 0 ∧ cd = 1 ∧ sn = 0 ∧ sd = 1 at hc0
  change ∀ i : Nat, fst f rs 5 = i → ∃ r, rs[i]? = some r ∧ rn = r.2.2.2.2.1.1 ∧ rd = r.2.2.2.2.1.2 at hb1
  change fst f rs 5 < 0 → rn = 0 ∧ rd = 1 at hb0
  change lim = limL (heldK f rs 1) at hlim
  have P : price = (hd (heldK f rs 3)).2.2.2.1 ∧ fn = (hd (heldK f rs 3)).2.2.2.2.1.1 ∧ fd = (hd (heldK f rs 3)).2.2.2.2.1.2 ∧ tn = (hd (heldK f rs 3)).2.2.2.2.2.1 ∧ td = (hd (heldK f rs 3)).2.2.2.2.2.2 := by
    rcases fst_cases f rs 3 with ⟨h1, h2⟩ | ⟨i, r, h1, h2, h3, h4, _⟩
    · rw [h2]; exact hp0 (by omega)
    · obtain ⟨r', e, h⟩ := hp1 i h1
      obtain rfl : r' = r := Option.some.inj (e.symm.trans h3)
      unfold hd; rw [h4]; exact h
  have C : cn = (hd (heldK f rs 4)).2.2.2.2.1.1 ∧ cd = (hd (heldK f rs 4)).2.2.2.2.1.2 ∧ sn = (hd (heldK f rs 4)).2.2.2.2.2.1 ∧ sd = (hd (heldK f rs 4)).2.2.2.2.2.2 := by
    rcases fst_cases f rs 4 with ⟨h1, h2⟩ | ⟨i, r, h1, h2, h3, h4, _⟩
    · rw [h2]; exact hc0 (by omega)
    · obtain ⟨r', e, h⟩ := hc1 i h1
      obtain rfl : r' = r := Option.some.inj (e.symm.trans h3)
      unfold hd; rw [h4]; exact h
  have R : rn = (hd (heldK f rs 5)).2.2.2.2.1.1 ∧ rd = (hd (heldK f rs 5)).2.2.2.2.1.2 := by
    rcases fst_cases f rs 5 with ⟨h1, h2⟩ | ⟨i, r, h1, h2, h3, h4, _⟩
    · rw [h2]; exact hb0 (by omega)
    · obtain ⟨r', e, h⟩ := hb1 i h1
      obtain rfl : r' = r := Option.some.inj (e.symm.trans h3)
      unfold hd; rw [h4]; exact h
  obtain ⟨p1, p2, p3, p4, p5⟩ := P
  obtain ⟨c1, c2, c3, c4⟩ := C
  obtain ⟨r1, r2⟩ := R
  have hok : okJ ⟨tg, si, lim, price, fn, fd, tn, td, cn, cd, sn, sd, rn, rd, pr, so, ba, al, de⟩ = (someL (heldK f rs 1) && someL (heldK f rs 3) && (heldK f rs 2).isEmpty) := by
    show (decide (0 ≤ al) && pr && decide (de < 0)) = _
    rw [hal, hpr, hde, fst_some, fst_some]
    congr 1
    have := fst_some f rs 2
    have e : decide (fst f rs 2 < 0) = !decide (0 ≤ fst f rs 2) := by
      by_cases h : 0 ≤ fst f rs 2
      · rw [decide_eq_true h, decide_eq_false (by omega)]; rfl
      · rw [decide_eq_false h, decide_eq_true (by omega)]; rfl
    rw [e, this]; simp [someL]
  unfold dcs decG
  rw [hok]
  show decV _ tg si lim price fn fd tn td cn cd sn sd rn rd (if 0 ≤ de then de else al) = _
  rw [htg, hsi, fst_some, fst_some, hlim, p1, p2, p3, p4, p5, c1, c2, c3, c4, r1, r2, hde, hal]
  rfl
end Go.Proofs.Ytmklcfmdcfbpeaa
