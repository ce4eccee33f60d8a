/- Layer 12 (resolve): the law's example. -/
import Derived.Test.YtecjhniomjmocaaResU
namespace Go.Proofs.Ytecjhniomjmocaa
open Go.RowKit Go.ChangeAt
set_option linter.unusedVariables false
set_option linter.unusedSimpArgs false
attribute [local go_sem] ext_cell ext_frozen lt_ext ext_drew

/-- The hall in memory: an area, a block, a level. -/
theorem hall_at {X : World} {g1 g2 g3 hb : Nat} (l1 : g1 < hb) (l2 : g2 < hb) (l3 : g3 < hb) (h1 : Bk X g1 #[.string sPit, .int .i64 0, .int .i64 0, .int .i64 0, .int .i64 0, .int .i64 0, .int .i64 0] 77) (h2 : Bk X g2 #[.string sA, .slice none 0 0, .int .i64 0] 73)
    (h3 : Bk X g3 #[.string sGround, .int .i64 0, .slice (some ⟨g2, 0, none⟩) 1 1, .slice (some ⟨g1, 0, none⟩) 1 1, .slice none 0 0, .slice none 0 0, .slice none 0 0, .int .i64 0] 70) (h4 : Bk X hb #[.string noName, .int .i64 0, .int .i64 0, .slice (some ⟨g3, 0, none⟩) 1 1] 29) : HallAt X hb := by
  have f0 : fits 0 := by unfold fits; omega
  refine ⟨g3, h4, Elems.of_block [[.string sGround, .int .i64 0, .slice (some ⟨g2, 0, none⟩) 1 1, .slice (some ⟨g1, 0, none⟩) 1 1, .slice none 0 0, .slice none 0 0, .slice none 0 0, .int .i64 0]] h3 l3 rfl (fun i hi => ?_) rfl⟩
  obtain rfl : i = 0 := by simp [exH] at hi; omega
  refine ⟨[_], _, rfl, ⟨rfl, (show sGround.size ≤ 1125899906842624 by decide)⟩, [_], _, rfl, ⟨rfl, f0⟩, [_], _, rfl, ⟨⟨_, 1, rfl, Nat.le_refl _, by simp [maxLen], ?_⟩, (show 1 ≤ 1125899906842624 by omega)⟩, [_], _, rfl, ⟨⟨_, 1, rfl, Nat.le_refl _, by simp [maxLen], ?_⟩, (show 1 ≤ 1125899906842624 by omega)⟩, [_], _, rfl, rfl, [_], _, rfl, rfl, [_], _, rfl, rfl, ⟨rfl, f0⟩⟩
  · refine Elems.of_block [[.string sA, .slice none 0 0, .int .i64 0]] h2 l2 rfl (fun i hi => ?_) rfl
    obtain rfl : i = 0 := by have : i < 1 := hi; omega
    exact ⟨[_], _, rfl, ⟨rfl, (show sA.size ≤ 1125899906842624 by decide)⟩, [_], _, rfl, rfl, ⟨rfl, f0⟩⟩
  · refine Elems.of_block [[.string sPit, .int .i64 0, .int .i64 0, .int .i64 0, .int .i64 0, .int .i64 0, .int .i64 0]] h1 l1 rfl (fun i hi => ?_) rfl
    obtain rfl : i = 0 := by have : i < 1 := hi; omega
    exact ⟨[_], _, rfl, ⟨rfl, (show sPit.size ≤ 1125899906842624 by decide)⟩, [_, _, _, _], _, rfl, ⟨[_], _, rfl, ⟨rfl, f0⟩, [_], _, rfl, ⟨rfl, f0⟩, [_], _, rfl, ⟨rfl, f0⟩, ⟨rfl, f0⟩⟩, [_], _, rfl, ⟨rfl, f0⟩, ⟨rfl, f0⟩⟩
/-- An item of one alternative. -/
theorem it_one {X : World} {b g n c : Nat} {A : Option Addr} {kd : Int} {nm : ByteArray} {l : List Ts} (h1 : Bk X b #[.int .i64 kd, .string nm, .slice (some ⟨g, 0, none⟩) 1 1, .int .i64 0, .int .i64 0, .int .i64 0, .int .i64 0, .int .i64 0, .int .i64 7] 57) (h2 : Bk X g #[.slice A n c] 62) (hn : l.length = n) (hc : n ≤ c) (hm : c ≤ maxLen) (h3 : Elems tTs X X.heap.size A l) : ItAt X b kd nm [l] := by
  subst hn
  refine ⟨_, 1, h1, Nat.le_refl _, by simp [maxLen], Elems.of_block [[.slice A l.length c]] h2 h2.lt rfl (fun i hi => ?_) rfl⟩
  obtain rfl : i = 0 := by simp at hi; omega
  exact ⟨A, c, rfl, hc, hm, h3⟩
theorem ts_one {X : World} {g : Nat} {a n : ByteArray} {op k att : Int} (h : Bk X g #[.string a, .int .i64 op, .string n, .int .i64 k, .int .i64 att] 64) (h1 : a.size ≤ 1125899906842624) (h2 : fits op) (h3 : n.size ≤ 1125899906842624) (h4 : fits k) (h5 : fits att) : Elems tTs X X.heap.size (some ⟨g, 0, none⟩) [tst a op n k att] :=
  Elems.of_block [[.string a, .int .i64 op, .string n, .int .i64 k, .int .i64 att]] h h.lt rfl (fun i hi => by
    obtain rfl : i = 0 := by simp at hi; omega
    exact ts_rd _ _ _ _ _ _ _ h1 h2 h3 h4 h5) rfl
theorem ts_two {X : World} {g : Nat} {a n a2 n2 : ByteArray} {op k att op2 k2 att2 : Int} (h : Bk X g #[.string a, .int .i64 op, .string n, .int .i64 k, .int .i64 att, .string a2, .int .i64 op2, .string n2, .int .i64 k2, .int .i64 att2] 64) (h1 : a.size ≤ 1125899906842624) (h2 : fits op) (h3 : n.size ≤ 1125899906842624) (h4 : fits k) (h5 : fits att)
    (h6 : a2.size ≤ 1125899906842624) (h7 : fits op2) (h8 : n2.size ≤ 1125899906842624) (h9 : fits k2) (h10 : fits att2) : Elems tTs X X.heap.size (some ⟨g, 0, none⟩) [tst a op n k att, tst a2 op2 n2 k2 att2] :=
  Elems.of_block [[.string a, .int .i64 op, .string n, .int .i64 k, .int .i64 att], [.string a2, .int .i64 op2, .string n2, .int .i64 k2, .int .i64 att2]] h h.lt rfl (fun i hi => by
    rcases (show i = 0 ∨ i = 1 by simp at hi; omega) with rfl | rfl
    · exact ts_rd _ _ _ _ _ _ _ h1 h2 h3 h4 h5
    · exact ts_rd _ _ _ _ _ _ _ h6 h7 h8 h9 h10) rfl

theorem bk_add {w : World} {b : Nat} {C : Array Value} {t : TypeId} (h : Bk w b C t) : ∀ j v, C.toList[j]? = some v → w.cell? ((⟨b, 0, none⟩ : Addr).add j) = some v := by
  intro j v hv
  have e : (⟨b, 0, none⟩ : Addr).add j = ⟨b, j, none⟩ := by unfold Addr.add; split <;> simp_all
  rw [e, h.cell]
  simpa using hv

theorem eq_lim (w : World) : (binOp .eql 42 (.agg (znV limZ)) (.agg (znV limZ))).run Try.prog w = .ok (.bool true) w := by kernel_rfl

set_option maxRecDepth 100000 in
set_option maxHeartbeats 4000000 in
theorem head_any (w : World) : Calls Try.prog 9 #[] w fun e w' => e = .returned (.bool true) ∧ Below w.heap.size w w' := by
  go_enter Try.func9, Try.ntmps9
  go_upto_region 2 with (fail)
  refine forget (fun X => Below w.heap.size w X ∧ HallAt X (w.heap.size + 3)) ⟨by (repeat (first | with_reducible exact Below.refl _ _ | with_reducible assumption | with_reducible refine Below.alloc0 ?_ _ | with_reducible refine Below.ext0 ?_ _ | with_reducible refine Below.drew ?_ | with_reducible refine below_drewN ?_ _ | (with_reducible refine Below.setCell (hp := ?hp) ?_ _; case hp => (first | (simp; done) | (simp; omega))))), hall_at (g1 := w.heap.size) (g2 := w.heap.size + 1) (g3 := w.heap.size + 2) (by omega) (by omega) (by omega) ?_ ?_ ?_ ?_⟩ ?_
  · exact (((bk_new_at _ _ _ _ (by simp)).alloc _).alloc _).alloc _
  · exact ((bk_new_at _ _ _ _ (by simp)).alloc _).alloc _
  · exact (bk_new_at _ _ _ _ (by simp)).alloc _
  · exact bk_new_at _ _ _ _ (by simp)
  have hlow : w.heap.size ≤ w.heap.size + 3 := by omega
  generalize w.heap.size + 3 = hb at *
  rintro X1 ⟨hX1, hh1⟩
  have H1 := Lib.hid (And.intro hX1 hh1)
  clear hX1 hh1
  go_upto_region 3 with (go_at_call 25; refine (rule_one _ _ _ _ _ _ (by omega)).mono ?_; rintro e w2 ⟨g, rfl, hg, hbg, hb2⟩; have H2 := Lib.hid (And.intro hg (And.intro hbg hb2)); clear hg hbg hb2)
  refine forget (fun X => Below w.heap.size w X ∧ HallAt X hb ∧ Bk X w2.heap.size #[.int .i64 1, .string sA, .slice (some ⟨g, 0, none⟩) 1 1, .int .i64 0, .int .i64 0, .int .i64 0, .int .i64 0, .int .i64 0, .int .i64 7] 57 ∧ Bk X g #[.slice (some ⟨X1.heap.size, 0, none⟩) 1 1] 62 ∧ Bk X X1.heap.size #[.string sAge, .int .i64 3, .string noName, .int .i64 18, .int .i64 0] 64) ?_ ?_
  · have hb9 : Below X1.heap.size X1 w2 := (below_self X1 _).trans (H2.out.2.2.mono (by simp))
    exact ⟨Below.alloc0 (Below.trans0 H1.out.1 hb9) _, (H1.out.2.below hb9).below (below_self _ _), Bk.new _ _ _, H2.out.2.1.alloc _, ((Bk.new X1 _ _).below H2.out.2.2).alloc _⟩
  have h2g : X1.heap.size ≤ g := by have := H2.out.1; simp at this; omega
  have hgb : g < w2.heap.size := H2.out.2.1.lt
  have hbt : hb < X1.heap.size := H1.out.2.lt
  clear H1 H2
  generalize w2.heap.size = b2 at *
  generalize X1.heap.size = t1 at *
  rintro X2 ⟨hX2, hh2, bx2, bg2, bt2⟩
  have c2 : X2.cell? ⟨b2, 2, none⟩ = some (.slice (some ⟨g, 0, none⟩) 1 1) := bx2.cell 2
  have f2 := bx2.free 2
  have l2 := bx2.lt
  have lg := bg2.lt
  have H2 := Lib.hid (And.intro hX2 (And.intro hh2 (And.intro bx2 (And.intro bg2 bt2))))
  clear hX2 hh2 bx2 bg2 bt2
  obtain ⟨i9, z9, hi9, hz9, hs9, hy9, hv9⟩ := info_of (P := Try.prog) (e := 62) (size := 1) (bytes := 24) (c := 1) (by kernel_rfl)
  have HI9 := Lib.hid (And.intro hi9 (And.intro hz9 (And.intro hs9 (And.intro hy9 hv9))))
  clear hi9 hz9 hs9 hy9 hv9
  have Hgt := Lib.hid (And.intro (bk_ne H2.out.2.2.1 H2.out.2.2.2.1 (by decide)) (bk_ne H2.out.2.2.2.2 H2.out.2.2.2.1 (by decide)))
  go_upto_region 4 with (at_builtin; refine list_append2 rfl _ _ _ rfl 0 62 i9 z9 1 24 Try.underlying55 HI9.out.1 HI9.out.2.1 HI9.out.2.2.1 HI9.out.2.2.2.1 HI9.out.2.2.2.2 (by decide) (v := .slice (some ⟨g, 0, none⟩) 1 1) 1 [.slice (some ⟨t1, 0, none⟩) 1 1] rfl ⟨rfl, .inr ⟨g, 1, #[.slice (some ⟨t1, 0, none⟩) 1 1], rfl, Nat.zero_le _, (H2.out.2.2.2.1.alloc _).alloc _, Nat.le_refl _, by simp [maxLen], rfl, rfl⟩⟩ (some ⟨X2.heap.size + 1, 0, none⟩) 1 1 [.slice (some ⟨X2.heap.size, 0, none⟩) 1 1] rfl rfl (lies_bk (C := #[_]) (bk_next _ _ _ _) 1) (by intro u hu; simp at hu; subst hu; rfl) (by unfold maxLen; omega) (by omega) (Nat.zero_le _) 2 [.slice (some ⟨t1, 0, none⟩) 1 1, .slice (some ⟨X2.heap.size, 0, none⟩) 1 1] rfl rfl ?_; intro A8 c8 w8 hown8 _ hg8 _; have hS8 : Only (fun b => b = g) X2 w8 := (((Only.refl _ X2).alloc _).alloc _).grown hg8 (fun b e => .inl (by simpa [Value.ownBlock] using e.symm)); have hbx := H2.out.2.2.1.only hS8 Hgt.out.1; have d2 : w8.cell? ⟨b2, 2, none⟩ = some (.slice (some ⟨g, 0, none⟩) 1 1) := hbx.cell 2; have e2 := hbx.free 2; have e3 := hbx.lt; have H8 := Lib.hid (And.intro hown8 (And.intro hS8 (And.intro hbx hg8))); clear hown8 hS8 hbx hg8)
  have hs8 := H8.out.2.1.size
  refine forget (fun X => Below w.heap.size w X ∧ HallAt X hb ∧ ItAt X b2 1 sA [[tst sAge 3 noName 18 0], [tst sMember 1 noName 1 0]]) ?_ ?_
  · obtain ⟨g8, cur, rfl, _, hlt8, hbk8, hle8, hmx8, hsz8, htk8⟩ := own_block H8.out.1 (by omega)
    have hne : g8 ≠ b2 := bk_ne hbk8 H8.out.2.2.1 (by decide)
    have hbl : Below g X2 (w8.setCell ⟨b2, 2, none⟩ (.slice (some ⟨g8, 0, none⟩) 2 c8)) := (H8.out.2.1.to_below (B := g) (fun b hb => by omega) (by omega)).setCell (by simp; omega) _
    have ht1 : Bk (w8.setCell ⟨b2, 2, none⟩ (.slice (some ⟨g8, 0, none⟩) 2 c8)) t1 #[.string sAge, .int .i64 3, .string noName, .int .i64 18, .int .i64 0] 64 := (H2.out.2.2.2.2.only H8.out.2.1 Hgt.out.2).far (by simp; omega) _
    have ht2 : Bk (w8.setCell ⟨b2, 2, none⟩ (.slice (some ⟨g8, 0, none⟩) 2 c8)) X2.heap.size #[.string sMember, .int .i64 1, .string noName, .int .i64 1, .int .i64 0] 64 := (grown_bk H8.out.2.2.2 ((Bk.new X2 _ _).alloc _) (by simp [Value.ownBlock]; omega)).far (by simp; omega) _
    refine ⟨H2.out.1.trans (hbl.mono (by omega)), H2.out.2.1.keep hbl (by omega), _, c8, H8.out.2.2.1.set_ 2 _, hle8, hmx8, own_elems (base := 0) (e := 62) (css := [[.slice (some ⟨t1, 0, none⟩) 1 1], [.slice (some ⟨X2.heap.size, 0, none⟩) 1 1]]) (own_only H8.out.1 ((Only.refl (fun b => b = b2) w8).set_ (p := ⟨b2, 2, none⟩) (.inl rfl) _) (fun b hb h => hne (by simp [Value.ownBlock] at hb; omega))) (by simp; omega) rfl (fun i hi => ?_)⟩
    rcases (show i = 0 ∨ i = 1 by simp at hi; omega) with rfl | rfl
    · exact ⟨_, 1, rfl, Nat.le_refl _, by simp [maxLen], ts_one ht1 (by decide) (by unfold fits; omega) (by decide) (by unfold fits; omega) (by unfold fits; omega)⟩
    · exact ⟨_, 1, rfl, Nat.le_refl _, by simp [maxLen], ts_one ht2 (by decide) (by unfold fits; omega) (by decide) (by unfold fits; omega) (by unfold fits; omega)⟩
  clear H8 H2 hs8 c2 f2 l2 lg Hgt HI9 h2g hgb hbt d2 e2 e3

  rintro X4 ⟨hX, hh, hi0⟩
  have hbl4 := hh.lt
  have H4 := Lib.hid (And.intro hX (And.intro hh hi0))
  clear hX hh hi0
  go_upto_region 5 with (go_at_call 25; refine (rule_one _ _ _ _ _ _ (by omega)).mono ?_; rintro e w2 ⟨g, rfl, hg, hbg, hb2⟩; have HR := Lib.hid (And.intro hg (And.intro hbg hb2)); clear hg hbg hb2)
  refine forget (fun Y => Below w.heap.size w Y ∧ HallAt Y hb ∧ ItAt Y b2 1 sA [[tst sAge 3 noName 18 0], [tst sMember 1 noName 1 0]] ∧ ItAt Y w2.heap.size 2 sB [[tst sAge 2 noName 5 0, tst sSize 5 noName 2 0]]) ?_ ?_
  · have hb9 : Below X4.heap.size X4 w2 := (below_self X4 _).trans (HR.out.2.2.mono (by simp))
    have hb8 := Below.alloc0 hb9 (.cells #[.int .i64 2, .string sB, .slice (some ⟨g, 0, none⟩) 1 1, .int .i64 0, .int .i64 0, .int .i64 0, .int .i64 0, .int .i64 0, .int .i64 7] 57)
    exact ⟨Below.trans0 H4.out.1 hb8, H4.out.2.1.below hb8, H4.out.2.2.below hb8, it_one (Bk.new _ _ _) (HR.out.2.1.alloc _) rfl (Nat.le_refl _) (by simp [maxLen]) (ts_two (((Bk.new X4 #[.string sAge, .int .i64 2, .string noName, .int .i64 5, .int .i64 0, .string sSize, .int .i64 5, .string noName, .int .i64 2, .int .i64 0] 64).below HR.out.2.2).alloc _) (by decide) (by unfold fits; omega) (by decide) (by unfold fits; omega) (by unfold fits; omega) (by decide) (by unfold fits; omega) (by decide) (by unfold fits; omega) (by unfold fits; omega))⟩
  clear H4 HR
  generalize w2.heap.size = b3 at *
  rintro X5 ⟨hX, hh, hi0, hi1⟩
  have hbl5 := hh.lt
  have H5 := Lib.hid (And.intro hX (And.intro hh (And.intro hi0 hi1)))
  clear hX hh hi0 hi1
  go_upto_region 6 with (go_at_call 25; refine (rule_one _ _ _ _ _ _ (by omega)).mono ?_; rintro e w2 ⟨g, rfl, hg, hbg, hb2⟩; have HR := Lib.hid (And.intro hg (And.intro hbg hb2)); clear hg hbg hb2)
  refine forget (fun Y => Below w.heap.size w Y ∧ HallAt Y hb ∧ ItAt Y b2 1 sA [[tst sAge 3 noName 18 0], [tst sMember 1 noName 1 0]] ∧ ItAt Y b3 2 sB [[tst sAge 2 noName 5 0, tst sSize 5 noName 2 0]] ∧ ItAt Y w2.heap.size 2 sC [[tst sAge 5 noName 150 0]]) ?_ ?_
  · have hb9 : Below X5.heap.size X5 w2 := (below_self X5 _).trans (HR.out.2.2.mono (by simp))
    have hb8 := Below.alloc0 hb9 (.cells #[.int .i64 2, .string sC, .slice (some ⟨g, 0, none⟩) 1 1, .int .i64 0, .int .i64 0, .int .i64 0, .int .i64 0, .int .i64 0, .int .i64 7] 57)
    exact ⟨Below.trans0 H5.out.1 hb8, H5.out.2.1.below hb8, H5.out.2.2.1.below hb8, H5.out.2.2.2.below hb8, it_one (Bk.new _ _ _) (HR.out.2.1.alloc _) rfl (Nat.le_refl _) (by simp [maxLen]) (ts_one (((Bk.new X5 #[.string sAge, .int .i64 5, .string noName, .int .i64 150, .int .i64 0] 64).below HR.out.2.2).alloc _) (by decide) (by unfold fits; omega) (by decide) (by unfold fits; omega) (by unfold fits; omega))⟩
  clear H5 HR
  generalize w2.heap.size = b4 at *
  rintro X6 ⟨hX, hh, hi0, hi1, hi2⟩
  have hbl6 := hh.lt
  have H6 := Lib.hid (And.intro hX (And.intro hh (And.intro hi0 (And.intro hi1 hi2))))
  clear hX hh hi0 hi1 hi2
  go_upto_region 7 with (go_at_call 25; refine (rule_one _ _ _ _ _ _ (by omega)).mono ?_; rintro e w2 ⟨g, rfl, hg, hbg, hb2⟩; have HR := Lib.hid (And.intro hg (And.intro hbg hb2)); clear hg hbg hb2)
  refine forget (fun Y => Below w.heap.size w Y ∧ HallAt Y hb ∧ ItAt Y b2 1 sA [[tst sAge 3 noName 18 0], [tst sMember 1 noName 1 0]] ∧ ItAt Y b3 2 sB [[tst sAge 2 noName 5 0, tst sSize 5 noName 2 0]] ∧ ItAt Y b4 2 sC [[tst sAge 5 noName 150 0]] ∧ ItAt Y w2.heap.size 2 sD [[tst sBlock 1 sGPit 0 0]]) ?_ ?_
  · have hb9 : Below X6.heap.size X6 w2 := (below_self X6 _).trans (HR.out.2.2.mono (by simp))
    have hb8 := Below.alloc0 hb9 (.cells #[.int .i64 2, .string sD, .slice (some ⟨g, 0, none⟩) 1 1, .int .i64 0, .int .i64 0, .int .i64 0, .int .i64 0, .int .i64 0, .int .i64 7] 57)
    exact ⟨Below.trans0 H6.out.1 hb8, H6.out.2.1.below hb8, H6.out.2.2.1.below hb8, H6.out.2.2.2.1.below hb8, H6.out.2.2.2.2.below hb8, it_one (Bk.new _ _ _) (HR.out.2.1.alloc _) rfl (Nat.le_refl _) (by simp [maxLen]) (ts_one (((Bk.new X6 #[.string sBlock, .int .i64 1, .string sGPit, .int .i64 0, .int .i64 0] 64).below HR.out.2.2).alloc _) (by decide) (by unfold fits; omega) (by decide) (by unfold fits; omega) (by unfold fits; omega))⟩
  clear H6 HR
  generalize w2.heap.size = b5 at *
  clear hbl4 hbl5 hbl6
  rintro X7 ⟨hX, hh, hi0, hi1, hi2, hi3⟩
  have hbl7 := hh.lt
  have HX7 := Lib.hid (And.intro hX hh)
  clear hX hh
  obtain ⟨A2, k2, q2, q2a, q2b, q2c⟩ := hi0
  obtain ⟨A3, k3, q3, q3a, q3b, q3c⟩ := hi1
  obtain ⟨A4, k4, q4, q4a, q4b, q4c⟩ := hi2
  obtain ⟨A5, k5, q5, q5a, q5b, q5c⟩ := hi3
  obtain ⟨gh, q1, q1c⟩ := HX7.out.2
  have HQ := Lib.hid (And.intro (And.intro q1 q1c) (And.intro (And.intro q2 q2c) (And.intro (And.intro q3 q3c) (And.intro (And.intro q4 q4c) (And.intro q5 q5c)))))
  have l2 := q2.lt
  have l3 := q3.lt
  have l4 := q4.lt
  have l5 := q5.lt
  clear q1 q1c q2 q2c q3 q3c q4 q4c q5 q5c
  refine region_float X7 12 6 (.cells #[.slice none 0 0] 35) [0, 1, 2, 3, 7] [9, 10, 11] 4 2 (Below.refl _ _) (by kernel_rfl) (by kernel_rfl) (fun ρ w => by simp only [pickO, List.getD_cons_zero, List.getD_cons_succ]; go_simp) (fun v7 => ?_)
  simp only [List.map_cons, List.map_nil, pickO, List.getD_cons_zero, List.getD_cons_succ]
  go_big_quiet_want
  refine quiet_load_at _ _ rfl b2 0 rfl #[.int .i64 1, .string sA, .slice A2 2 k2, .int .i64 0, .int .i64 0, .int .i64 0, .int .i64 0, .int .i64 0, .int .i64 7] _ (fun w9 hw9 j u hu => by obtain ⟨u9, rfl⟩ := hw9; rw [ext_cell _ _ l2, Nat.zero_add, HQ.out.2.1.1.cell]; exact hu) Try.underlying57 rfl (by kernel_rfl) ?_
  go_simp
  go_big_quiet_on
  go_big_quiet_want
  refine quiet_load_at _ _ rfl b3 0 rfl #[.int .i64 2, .string sB, .slice A3 1 k3, .int .i64 0, .int .i64 0, .int .i64 0, .int .i64 0, .int .i64 0, .int .i64 7] _ (fun w9 hw9 j u hu => by obtain ⟨u9, rfl⟩ := hw9; rw [ext_cell _ _ l3, Nat.zero_add, HQ.out.2.2.1.1.cell]; exact hu) Try.underlying57 rfl (by kernel_rfl) ?_
  go_simp
  go_big_quiet_on
  go_big_quiet_want
  refine quiet_load_at _ _ rfl b4 0 rfl #[.int .i64 2, .string sC, .slice A4 1 k4, .int .i64 0, .int .i64 0, .int .i64 0, .int .i64 0, .int .i64 0, .int .i64 7] _ (fun w9 hw9 j u hu => by obtain ⟨u9, rfl⟩ := hw9; rw [ext_cell _ _ l4, Nat.zero_add, HQ.out.2.2.2.1.1.cell]; exact hu) Try.underlying57 rfl (by kernel_rfl) ?_
  go_simp
  go_big_quiet_on
  go_big_quiet_want
  refine quiet_load_at _ _ rfl b5 0 rfl #[.int .i64 2, .string sD, .slice A5 1 k5, .int .i64 0, .int .i64 0, .int .i64 0, .int .i64 0, .int .i64 0, .int .i64 7] _ (fun w9 hw9 j u hu => by obtain ⟨u9, rfl⟩ := hw9; rw [ext_cell _ _ l5, Nat.zero_add, HQ.out.2.2.2.2.1.cell]; exact hu) Try.underlying57 rfl (by kernel_rfl) ?_
  go_simp
  go_big_quiet_on
  go_big_quiet_want
  refine quiet_load_at _ _ rfl hb 0 rfl #[.string noName, .int .i64 0, .int .i64 0, .slice (some ⟨gh, 0, none⟩) 1 1] _ (fun w9 hw9 j u hu => by obtain ⟨u9, rfl⟩ := hw9; rw [ext_cell _ _ hbl7, Nat.zero_add, HQ.out.1.1.cell]; exact hu) Try.underlying29 rfl (by kernel_rfl) ?_
  go_simp
  go_big_quiet_on
  refine wpQuiet_nil ⟨by simp, ?_⟩
  refine anyG_run (i := 4) (by kernel_rfl) rfl (fun w4 u4 hw4 K9 h9 => ?_)
  simp only [Act.put, List.setIfInBounds_toArray, List.set_cons_succ, List.set_cons_zero]
  go_wp2_with (go_at_call 25; refine (rule_none _ _ _).mono ?_; rintro e w5 ⟨rfl, hb5⟩; have H5 := Lib.hid hb5; clear hb5)
  refine h9 _ _ H5.out ?_
  clear h9 K9
  have hw5 : Below X7.heap.size X7 w5 := ((below_ext X7 v7).trans (hw4.mono (size_ext _ _))).trans (H5.out.mono (by have := hw4.size; have := size_ext X7 v7; omega))
  have HW5 := Lib.hid hw5
  clear hw5 hw4 H5
  refine anyG_run (i := 5) (by kernel_rfl) rfl (fun w6 u6 hw6 K9 h9 => ?_)
  simp only [Act.put, List.setIfInBounds_toArray, List.set_cons_succ, List.set_cons_zero]
  refine list_lit rfl 22 57 5 9 _ rfl [.agg (itR 1 sA A2 2 k2).toArray, .agg (itR 2 sB A3 1 k3).toArray, .agg (itR 2 sC A4 1 k4).toArray, .agg (itR 2 sD A5 1 k5).toArray, .agg (itR 1 sE none 0 0).toArray] Try.underlying22 (by kernel_rfl) rfl (by decide) (by decide) (by decide) (by simp [Act.eval, itR, sE]) (by intro v hv; simp at hv; rcases hv with rfl | rfl | rfl | rfl | rfl <;> rfl) (by kernel_rfl) ?_
  show K9 _ _
  go_simp
  refine h9 _ _ (below_self _ _) ?_
  clear h9 K9
  have hw6' : Below X7.heap.size X7 w6 := HW5.out.trans (hw6.mono HW5.out.size)
  have hitems : Elems tIt (w6.alloc (.cells (itR 1 sA A2 2 k2 ++ (itR 2 sB A3 1 k3 ++ (itR 2 sC A4 1 k4 ++ (itR 2 sD A5 1 k5 ++ itR 1 sE none 0 0)))).toArray 57)) (w6.heap.size + 1) (some ⟨w6.heap.size, 0, none⟩) exI := by
    have kk : ∀ {A : Option Addr} {l : List (List Ts)}, Elems (tSlice tTs) X7 X7.heap.size A l → Elems (tSlice tTs) (w6.alloc (.cells (itR 1 sA A2 2 k2 ++ (itR 2 sB A3 1 k3 ++ (itR 2 sC A4 1 k4 ++ (itR 2 sD A5 1 k5 ++ itR 1 sE none 0 0)))).toArray 57)) (w6.heap.size + 1) A l := fun h => h.keep (Below.alloc0 hw6' _) (by have := hw6'.size; omega)
    exact exI_at (Bk.new _ _ _) _ (by omega) q2a q2b (kk HQ.out.2.1.2) q3a q3b (kk HQ.out.2.2.1.2) q4a q4b (kk HQ.out.2.2.2.1.2) q5a q5b (kk HQ.out.2.2.2.2.2)
  have HI := Lib.hid (And.intro (Below.alloc0 hw6' (.cells (itR 1 sA A2 2 k2 ++ (itR 2 sB A3 1 k3 ++ (itR 2 sC A4 1 k4 ++ (itR 2 sD A5 1 k5 ++ itR 1 sE none 0 0)))).toArray 57)) hitems)
  clear hitems hw6 hw6' HW5
  refine anyG_run (i := 6) (by kernel_rfl) rfl (fun w7 u7 hw7 K9 h9 => ?_)
  simp only [Act.put, List.setIfInBounds_toArray, List.set_cons_succ, List.set_cons_zero]
  go_wp2_with fail
  refine h9 _ _ (Below.refl _ _) ?_
  clear h9 K9
  refine anyG_run (i := 8) (by kernel_rfl) rfl (fun w8' u8 hw8 K9 h9 => ?_)
  simp only [Act.put, List.setIfInBounds_toArray, List.set_cons_succ, List.set_cons_zero]
  have hb8 : Below (w6.heap.size + 1) (w6.alloc (.cells (itR 1 sA A2 2 k2 ++ (itR 2 sB A3 1 k3 ++ (itR 2 sC A4 1 k4 ++ (itR 2 sD A5 1 k5 ++ itR 1 sE none 0 0)))).toArray 57)) w8' := (hw7.trans (hw8.mono hw7.size)).mono (by simp)
  have HB8 := Lib.hid (And.intro hb8 (And.intro (HI.out.2.keep hb8 (Nat.le_refl _)) (HQ.out.1.2.keep ((HI.out.1.trans (hb8.mono (by have := HI.out.1.size; simp at this; omega))).mono (by omega)) (show hb ≤ w6.heap.size + 1 by have := HI.out.1.size; simp at this; omega))))
  have hz8 := hb8.size
  simp at hz8
  clear hb8 hw7 hw8
  go_wp2_with (go_at_call 12; refine (compile_any _ exI 5 noName 0 0 _ exH 1 _ (w6.heap.size + 1) HB8.out.2.1 HB8.out.2.2 (by omega) (by decide) (by decide) (by decide) ex_few (by decide) ex_small exL rfl).mono ?_; rintro e w9 hC; obtain ⟨pb, po, pc, fA, fc, rfl, hex, hb9⟩ := comp_ex hC; have H9 := Lib.hid (And.intro hex hb9); clear hC hex hb9)
  refine h9 _ _ H9.out.2 ?_
  clear h9 K9
  have hx9 : Below X7.heap.size X7 w9 := (HI.out.1.trans (HB8.out.1.mono (by have := HI.out.1.size; simp at this; omega))).trans (H9.out.2.mono (by have := HI.out.1.size; simp at this; omega))
  have HX9 := Lib.hid (And.intro hx9 H9.out.1)
  clear hx9 H9 HB8 HI hz8
  refine anyG_end [13, 14] (by obtain ⟨u, hu⟩ := ext_of HX9.out.1; exact ⟨u, hu.symm⟩) ext_cl (by kernel_rfl) rfl (by kernel_rfl) (fun w10 u10 hw10 => ?_)
  simp only [Act.put, List.setIfInBounds_toArray, List.set_cons_succ, List.set_cons_zero, List.map_cons, List.map_nil, pickO, List.getD_cons_zero, List.getD_cons_succ]
  repeat (go_big_quiet_step (fail))
  refine wpQuiet_nil (fun w11 u11 hw11 hN => ?_)
  obtain ⟨b6, rfl, hb6, k6⟩ := hN
  have k6 : Bk w11 b6 #[.slice none 0 0] 35 := k6
  have HXB := Lib.hid (And.intro (HX9.out.1.trans ((hw10.trans (hw11.mono hw10.size)).mono HX9.out.1.size)) (And.intro ((HX9.out.2.below hw10).below hw11) k6))
  have c6 := k6.cell
  have f6 := k6.free
  have l6 := k6.lt
  clear hw11 hw10 HX9 k6
  simp only [Act.put, List.setIfInBounds_toArray, List.set_cons_succ, List.set_cons_zero]
  refine plan_run (fun K9 h9 => ?_)
  simp only [pickO, List.getD_cons_zero, List.getD_cons_succ]
  go_wp2_with fail
  have hlow6 : X7.heap.size ≤ w11.heap.size := HXB.out.1.size
  refine h9 _ _ (mem_below (HXB.out.1.setCell (by simpa using hb6) _)) ?_
  clear h9 K9
  refine plan_run (fun K9 h9 => ?_)
  simp only [pickO, List.getD_cons_zero, List.getD_cons_succ]
  go_wp2_with fail
  refine h9 _ _ (mem_below (HXB.out.1.setCell (by simpa using hb6) _)) ?_
  clear h9 K9
  refine plan_next (plan_end ?_)
  refine forget_then (fun X => Below w.heap.size w X ∧ HallAt X hb ∧ Bk X b6 #[.slice (some ⟨pb, po, none⟩) 5 pc] 35 ∧ ExCells X pb po) ⟨?_, ?_, HXB.out.2.2.set_ 0 _, HXB.out.2.1.set HXB.out.2.2⟩ ?_
  · exact Below.trans (HX7.out.1) ((HXB.out.1.setCell (by simpa using hb6) _).mono (show w.heap.size ≤ X7.heap.size by omega))
  · exact HX7.out.2.below (HXB.out.1.setCell (by simpa using hb6) _)
  clear HXB HX7 HQ c6 f6 l6 hb6 hlow6 hbl7 l2 l3 l4 l5 q2a q2b q3a q3b q4a q4b q5a q5b
  rintro X8 ⟨hX, hh, k6, hex⟩
  have hbl8 := hh.lt
  have HX8 := Lib.hid (And.intro hX (And.intro hh (And.intro k6 hex)))
  clear hX hh k6 hex
  obtain ⟨gh, q1, q1c⟩ := HX8.out.2.1
  have HQ := Lib.hid (And.intro q1 q1c)
  clear q1 q1c
  go_upto_region 8 with (fail)
  refine region_float X8 14 8 (.cells #[.slice none 0 0] 35) [0, 3, 9] [11, 12, 13] 8 2 (Below.refl _ _) (by kernel_rfl) (by kernel_rfl) (fun ρ w => by simp only [pickO, List.getD_cons_zero, List.getD_cons_succ]; go_simp) (fun v8 => ?_)
  simp only [List.map_cons, List.map_nil, pickO, List.getD_cons_zero, List.getD_cons_succ]
  go_big_quiet_step (fail)
  go_big_quiet_step (fail)
  go_big_quiet_want
  refine quiet_load_at _ _ rfl hb 0 rfl #[.string noName, .int .i64 0, .int .i64 0, .slice (some ⟨gh, 0, none⟩) 1 1] _ (fun w9 hw9 j u hu => by obtain ⟨u9, rfl⟩ := hw9; rw [ext_cell _ _ hbl8, Nat.zero_add, HQ.out.1.cell]; exact hu) Try.underlying29 rfl (by kernel_rfl) ?_
  go_simp
  go_big_quiet_on
  refine wpQuiet_nil ⟨by simp, ?_⟩
  refine anyG_share (k := 5) #[true, true, true, true, true, false, false, false, false, true, false, false, false, false, true, false, false] (fun g1 g4 gr W => Below X8.heap.size X8 W ∧ Bk W g1 #[.string sLevel, .int .i64 1, .string sBalcony, .int .i64 0, .int .i64 9] 64 ∧ Bk W g4 #[.string sAge, .int .i64 1, .string sGround, .int .i64 0, .int .i64 8] 64 ∧ Bk W gr #[.slice (some ⟨g1, 0, none⟩) 1 1] 62) ?_
  apply Exists.intro
  refine ⟨fun R => ?_, ?_⟩
  · have hv8 := below_ext X8 v8
    refine anyG_two (i := 1) (j := 4) (by kernel_rfl) rfl rfl (fun w1 u1 hw1 K9 h9 => ?_) (fun w1 u1 hw1 K9 h9 => ?_)
    · have hB1 : Below X8.heap.size X8 w1 := hv8.trans (hw1.mono (size_ext _ _))
      simp only [Act.put, List.setIfInBounds_toArray, List.set_cons_succ, List.set_cons_zero]
      go_wp2_with fail
      refine h9 _ _ (below_self _ _) ?_
      clear h9 K9
      refine anyG_two (i := 2) (j := 4) (by kernel_rfl) rfl rfl (fun w2 u2 hw2 K9 h9 => ?_) (fun w2 u2 hw2 K9 h9 => ?_)
      · have hB2 : Below X8.heap.size X8 w2 := (Below.alloc0 hB1 _).trans (hw2.mono (by have := hB1.size; simp; omega))
        simp only [Act.put, List.setIfInBounds_toArray, List.set_cons_succ, List.set_cons_zero]
        go_wp2_with (go_at_call 25; refine (rule_one _ _ _ _ _ _ (by omega)).mono ?_; rintro e wR ⟨gr, rfl, hg, hbg, hbR⟩; have HR := Lib.hid (And.intro hbg hbR); clear hg hbg hbR)
        refine h9 _ _ HR.out.2 ?_
        clear h9 K9
        refine anyG_run (i := 4) (by kernel_rfl) rfl (fun w4 u4 hw4 K9 h9 => ?_)
        have hB3 : Below X8.heap.size X8 wR := hB2.trans (HR.out.2.mono hB2.size)
        have hB4 : Below X8.heap.size X8 w4 := hB3.trans (hw4.mono hB3.size)
        simp only [Act.put, List.setIfInBounds_toArray, List.set_cons_succ, List.set_cons_zero]
        go_wp2_with fail
        refine h9 _ _ (below_self _ _) ?_
        clear h9 K9
        refine anyG_listed (listed' := #[true, true, true, true, true, false, false, false, false, true, false, false, false, false, true, false, false]) (by kernel_rfl) (anyG_slot_inv (x := undef) ?_)
        simp only [Act.put, List.setIfInBounds_toArray, List.set_cons_succ, List.set_cons_zero]
        have hF := And.intro (Below.alloc0 hB4 (.cells #[.string sAge, .int .i64 1, .string sGround, .int .i64 0, .int .i64 8] 64)) (And.intro (((((Bk.new w1 #[.string sLevel, .int .i64 1, .string sBalcony, .int .i64 0, .int .i64 9] 64).below hw2).below HR.out.2).below hw4).alloc (.cells #[.string sAge, .int .i64 1, .string sGround, .int .i64 0, .int .i64 8] 64)) (And.intro (Bk.new w4 #[.string sAge, .int .i64 1, .string sGround, .int .i64 0, .int .i64 8] 64) ((HR.out.1.below hw4).alloc (.cells #[.string sAge, .int .i64 1, .string sGround, .int .i64 0, .int .i64 8] 64))))
        generalize w1.heap.size = g1 at hF ⊢
        generalize w4.heap.size = g4 at hF ⊢
        exact R g1 g4 gr _ hF
      · have hB2 : Below X8.heap.size X8 w2 := (Below.alloc0 hB1 _).trans (hw2.mono (by have := hB1.size; simp; omega))
        simp only [Act.put, List.setIfInBounds_toArray, List.set_cons_succ, List.set_cons_zero]
        go_wp2_with fail
        refine h9 _ _ (below_self _ _) ?_
        clear h9 K9
        refine anyG_run (i := 2) (by kernel_rfl) rfl (fun w4 u4 hw4 K9 h9 => ?_)
        have hB4 : Below X8.heap.size X8 w4 := (Below.alloc0 hB2 _).trans (hw4.mono (by have := hB2.size; simp; omega))
        simp only [Act.put, List.setIfInBounds_toArray, List.set_cons_succ, List.set_cons_zero]
        go_wp2_with (go_at_call 25; refine (rule_one _ _ _ _ _ _ (by omega)).mono ?_; rintro e wR ⟨gr, rfl, hg, hbg, hbR⟩; have HR := Lib.hid (And.intro hbg hbR); clear hg hbg hbR)
        refine h9 _ _ HR.out.2 ?_
        clear h9 K9
        refine anyG_listed (listed' := #[true, true, true, true, true, false, false, false, false, true, false, false, false, false, true, false, false]) (by kernel_rfl) (anyG_slot_inv (x := undef) ?_)
        simp only [Act.put, List.setIfInBounds_toArray, List.set_cons_succ, List.set_cons_zero]
        have hF := And.intro (hB4.trans (HR.out.2.mono hB4.size)) (And.intro (((((Bk.new w1 #[.string sLevel, .int .i64 1, .string sBalcony, .int .i64 0, .int .i64 9] 64).below hw2).alloc _).below hw4).below HR.out.2) (And.intro (((Bk.new w2 #[.string sAge, .int .i64 1, .string sGround, .int .i64 0, .int .i64 8] 64).below hw4).below HR.out.2) (HR.out.1)))
        generalize w1.heap.size = g1 at hF ⊢
        generalize w2.heap.size = g4 at hF ⊢
        exact R g1 g4 gr _ hF
    · have hB1 : Below X8.heap.size X8 w1 := hv8.trans (hw1.mono (size_ext _ _))
      simp only [Act.put, List.setIfInBounds_toArray, List.set_cons_succ, List.set_cons_zero]
      go_wp2_with fail
      refine h9 _ _ (below_self _ _) ?_
      clear h9 K9
      refine anyG_run (i := 1) (by kernel_rfl) rfl (fun w2 u2 hw2 K9 h9 => ?_)
      have hB2 : Below X8.heap.size X8 w2 := (Below.alloc0 hB1 _).trans (hw2.mono (by have := hB1.size; simp; omega))
      simp only [Act.put, List.setIfInBounds_toArray, List.set_cons_succ, List.set_cons_zero]
      go_wp2_with fail
      refine h9 _ _ (below_self _ _) ?_
      clear h9 K9
      refine anyG_run (i := 2) (by kernel_rfl) rfl (fun w4 u4 hw4 K9 h9 => ?_)
      have hB4 : Below X8.heap.size X8 w4 := (Below.alloc0 hB2 _).trans (hw4.mono (by have := hB2.size; simp; omega))
      simp only [Act.put, List.setIfInBounds_toArray, List.set_cons_succ, List.set_cons_zero]
      go_wp2_with (go_at_call 25; refine (rule_one _ _ _ _ _ _ (by omega)).mono ?_; rintro e wR ⟨gr, rfl, hg, hbg, hbR⟩; have HR := Lib.hid (And.intro hbg hbR); clear hg hbg hbR)
      refine h9 _ _ HR.out.2 ?_
      clear h9 K9
      refine anyG_listed (listed' := #[true, true, true, true, true, false, false, false, false, true, false, false, false, false, true, false, false]) (by kernel_rfl) (anyG_slot_inv (x := undef) ?_)
      simp only [Act.put, List.setIfInBounds_toArray, List.set_cons_succ, List.set_cons_zero]
      have hF := And.intro (hB4.trans (HR.out.2.mono hB4.size)) (And.intro (((Bk.new w2 #[.string sLevel, .int .i64 1, .string sBalcony, .int .i64 0, .int .i64 9] 64).below hw4).below HR.out.2) (And.intro (((((Bk.new w1 #[.string sAge, .int .i64 1, .string sGround, .int .i64 0, .int .i64 8] 64).below hw2).alloc _).below hw4).below HR.out.2) (HR.out.1)))
      generalize w2.heap.size = g1 at hF ⊢
      generalize w1.heap.size = g4 at hF ⊢
      exact R g1 g4 gr _ hF
  · rintro g1 g4 gr W ⟨hW, k1, k4, kr⟩
    have HW := Lib.hid (And.intro hW (And.intro k1 (And.intro k4 kr)))
    clear hW k1 k4 kr
    refine anyG_run (i := 5) (by kernel_rfl) rfl (fun w5 u5 hw5 K9 h9 => ?_)
    simp only [Act.put, List.setIfInBounds_toArray, List.set_cons_succ, List.set_cons_zero]
    go_wp2_with (go_at_call 25; refine (rule_one _ _ _ _ _ _ (by omega)).mono ?_; rintro e w6 ⟨gr2, rfl, hg, hbg, hb2⟩; have HR := Lib.hid (And.intro hbg hb2); clear hg hbg hb2)
    refine h9 _ _ HR.out.2 ?_
    clear h9 K9
    have H6 := Lib.hid (And.intro (HW.out.1.trans ((hw5.trans (HR.out.2.mono hw5.size)).mono HW.out.1.size)) (And.intro ((HW.out.2.1.below hw5).below HR.out.2) (And.intro ((HW.out.2.2.1.below hw5).below HR.out.2) (And.intro ((HW.out.2.2.2.below hw5).below HR.out.2) HR.out.1))))
    clear hw5 HW HR
    refine anyG_run (i := 6) (by kernel_rfl) rfl (fun w7 u7 hw7 K9 h9 => ?_)
    simp only [Act.put, List.setIfInBounds_toArray, List.set_cons_succ, List.set_cons_zero]
    go_wp2_with (go_at_call 25; refine (rule_none _ _ _).mono ?_; rintro e w8' ⟨rfl, hb5⟩; have HR := Lib.hid hb5; clear hb5)
    refine h9 _ _ HR.out ?_
    clear h9 K9
    have hb78 : Below w6.heap.size w6 w8' := hw7.trans (HR.out.mono hw7.size)
    have H8 := Lib.hid (And.intro (H6.out.1.trans (hb78.mono H6.out.1.size)) (And.intro (H6.out.2.1.below hb78) (And.intro (H6.out.2.2.1.below hb78) (And.intro (H6.out.2.2.2.1.below hb78) (H6.out.2.2.2.2.below hb78)))))
    clear hw7 HR H6 hb78
    refine anyG_run (i := 7) (by kernel_rfl) rfl (fun w9 u9 hw9 K9 h9 => ?_)
    simp only [Act.put, List.setIfInBounds_toArray, List.set_cons_succ, List.set_cons_zero]
    refine list_lit rfl 22 57 3 9 _ rfl [.agg (itR 2 sD (some ⟨gr, 0, none⟩) 1 1).toArray, .agg (itR 2 sE (some ⟨gr2, 0, none⟩) 1 1).toArray, .agg (itR 2 sE none 0 0).toArray] Try.underlying22 (by kernel_rfl) rfl (by decide) (by decide) (by decide) (by simp [Act.eval, itR, sD, sE]) (by intro v hv; simp at hv; rcases hv with rfl | rfl | rfl <;> rfl) (by kernel_rfl) ?_
    show K9 _ _
    go_simp
    refine h9 _ _ (below_self _ _) ?_
    clear h9 K9
    have hw9' : Below X8.heap.size X8 w9 := H8.out.1.trans (hw9.mono H8.out.1.size)
    have hitems : Elems tIt (w9.alloc (.cells (itR 2 sD (some ⟨gr, 0, none⟩) 1 1 ++ (itR 2 sE (some ⟨gr2, 0, none⟩) 1 1 ++ itR 2 sE none 0 0)).toArray 57)) (w9.heap.size + 1) (some ⟨w9.heap.size, 0, none⟩) exJ := by
      have kk : ∀ {g : Nat} {C : Array Value} {t : TypeId}, Bk w8' g C t → Bk (w9.alloc (.cells (itR 2 sD (some ⟨gr, 0, none⟩) 1 1 ++ (itR 2 sE (some ⟨gr2, 0, none⟩) 1 1 ++ itR 2 sE none 0 0)).toArray 57)) g C t := fun h => (h.below hw9).alloc _
      have hsz : (w9.alloc (.cells (itR 2 sD (some ⟨gr, 0, none⟩) 1 1 ++ (itR 2 sE (some ⟨gr2, 0, none⟩) 1 1 ++ itR 2 sE none 0 0)).toArray 57)).heap.size = w9.heap.size + 1 := by simp
      refine exJ_at (Bk.new _ _ _) _ (by omega) (Nat.le_refl _) (by simp [maxLen]) ?_ (Nat.le_refl _) (by simp [maxLen]) ?_
      · refine Elems.of_block [[.slice (some ⟨g1, 0, none⟩) 1 1]] (kk H8.out.2.2.2.1) (by have := (kk H8.out.2.2.2.1).lt; omega) rfl (fun i hi => ?_) rfl
        obtain rfl : i = 0 := by simp at hi; omega
        refine ⟨_, 1, rfl, Nat.le_refl _, by simp [maxLen], ?_⟩
        have := ts_one (kk H8.out.2.1) (by decide) (by unfold fits; omega) (by decide) (by unfold fits; omega) (by unfold fits; omega)
        rwa [hsz] at this
      · refine Elems.of_block [[.slice (some ⟨g4, 0, none⟩) 1 1]] (kk H8.out.2.2.2.2) (by have := (kk H8.out.2.2.2.2).lt; omega) rfl (fun i hi => ?_) rfl
        obtain rfl : i = 0 := by simp at hi; omega
        refine ⟨_, 1, rfl, Nat.le_refl _, by simp [maxLen], ?_⟩
        have := ts_one (kk H8.out.2.2.1) (by decide) (by unfold fits; omega) (by decide) (by unfold fits; omega) (by unfold fits; omega)
        rwa [hsz] at this
    have HI := Lib.hid (And.intro (Below.alloc0 hw9' (.cells (itR 2 sD (some ⟨gr, 0, none⟩) 1 1 ++ (itR 2 sE (some ⟨gr2, 0, none⟩) 1 1 ++ itR 2 sE none 0 0)).toArray 57)) hitems)
    clear hitems hw9 hw9' H8
    refine anyG_run (i := 8) (by kernel_rfl) rfl (fun wA uA hwA K9 h9 => ?_)
    simp only [Act.put, List.setIfInBounds_toArray, List.set_cons_succ, List.set_cons_zero]
    go_wp2_with fail
    refine h9 _ _ (Below.refl _ _) ?_
    clear h9 K9
    refine anyG_run (i := 10) (by kernel_rfl) rfl (fun wB uB hwB K9 h9 => ?_)
    simp only [Act.put, List.setIfInBounds_toArray, List.set_cons_succ, List.set_cons_zero]
    have hb8 : Below (w9.heap.size + 1) (w9.alloc (.cells (itR 2 sD (some ⟨gr, 0, none⟩) 1 1 ++ (itR 2 sE (some ⟨gr2, 0, none⟩) 1 1 ++ itR 2 sE none 0 0)).toArray 57)) wB := (hwA.trans (hwB.mono hwA.size)).mono (by simp)
    have HB8 := Lib.hid (And.intro hb8 (And.intro (HI.out.2.keep hb8 (Nat.le_refl _)) (HQ.out.2.keep ((HI.out.1.trans (hb8.mono (by have := HI.out.1.size; simp at this; omega))).mono (by omega)) (show hb ≤ w9.heap.size + 1 by have := HI.out.1.size; simp at this; omega))))
    have hz8 := hb8.size
    simp at hz8
    clear hb8 hwA hwB
    go_wp2_with (go_at_call 12; refine (compile_any _ exJ 3 noName 0 0 _ exH 1 _ (w9.heap.size + 1) HB8.out.2.1 HB8.out.2.2 (by omega) (by decide) (by decide) (by decide) ex_few2 (by decide) ex_small exL rfl).mono ?_; rintro e wC hC; obtain ⟨rA, rc, gA, gc, rfl, hfa, hb9⟩ := comp_ex2 hC; have H9 := Lib.hid (And.intro hfa hb9); clear hC hfa hb9)
    refine h9 _ _ H9.out.2 ?_
    clear h9 K9
    have hx9 : Below X8.heap.size X8 wC := (HI.out.1.trans (HB8.out.1.mono (by have := HI.out.1.size; simp at this; omega))).trans (H9.out.2.mono (by have := HI.out.1.size; simp at this; omega))
    have HX9 := Lib.hid (And.intro hx9 H9.out.1)
    clear hx9 H9 HB8 HI hz8
    refine anyG_end [15, 16] (mem_below HX9.out.1) ext_cl (by kernel_rfl) rfl (by kernel_rfl) (fun wD uD hwD => ?_)
    simp only [Act.put, List.setIfInBounds_toArray, List.set_cons_succ, List.set_cons_zero, List.map_cons, List.map_nil, pickO, List.getD_cons_zero, List.getD_cons_succ]
    repeat (go_big_quiet_step (fail))
    refine wpQuiet_nil (fun wE uE hwE hN => ?_)
    obtain ⟨b8, rfl, hb8, k8⟩ := hN
    have k8 : Bk wE b8 #[.slice none 0 0] 35 := k8
    have hbE : Below wC.heap.size wC wE := hwD.trans (hwE.mono hwD.size)
    have HXB := Lib.hid (And.intro (HX9.out.1.trans (hbE.mono HX9.out.1.size)) (And.intro (HX9.out.2.keep hbE hbE.size) k8))
    have c8 := k8.cell
    have f8 := k8.free
    have l8 := k8.lt
    clear hwD hwE HX9 k8 hbE
    simp only [Act.put, List.setIfInBounds_toArray, List.set_cons_succ, List.set_cons_zero]
    refine plan_run (fun K9 h9 => ?_)
    simp only [pickO, List.getD_cons_zero, List.getD_cons_succ]
    go_wp2_with fail
    refine h9 _ _ (mem_below (HXB.out.1.setCell (by simpa using hb8) _)) ?_
    clear h9 K9
    refine plan_run (fun K9 h9 => ?_)
    simp only [pickO, List.getD_cons_zero, List.getD_cons_succ]
    go_wp2_with fail
    refine h9 _ _ (mem_below (HXB.out.1.setCell (by simpa using hb8) _)) ?_
    clear h9 K9
    refine plan_next (plan_end ?_)
    refine forget_then (fun X => Below w.heap.size w X ∧ Bk X b6 #[.slice (some ⟨pb, po, none⟩) 5 pc] 35 ∧ ExCells X pb po ∧ Elems tFa X X.heap.size gA [(8, 7, 9), (10, 7, 8), (9, 7, -1)]) ⟨?_, ?_, (HX8.out.2.2.2.below HXB.out.1).set HXB.out.2.2, ?_⟩ ?_
    · exact Below.trans0 HX8.out.1 (HXB.out.1.setCell (by simpa using hb8) _)
    · exact (HX8.out.2.2.1.below HXB.out.1).far (by have := HX8.out.2.2.1.lt; simp; omega) _
    · have := fa_set (u := .slice rA 0 rc) HXB.out.2.1 HXB.out.2.2
      exact this.keep (Below.refl _ _) (by simp)
    clear HXB HX8 HQ c8 f8 l8 hb8 hbl8
    rintro X9 ⟨hX, k6, hex, hfa⟩
    have c6 : X9.cell? ⟨b6, 0, none⟩ = some (.slice (some ⟨pb, po, none⟩) 5 pc) := k6.cell 0
    have l6 := k6.lt
    obtain ⟨lp, ⟨b0, o0, c0, a1, a2, a3, a4, a5, a6⟩, ⟨b1, o1, c1, d1, d2, d3, d4, d5, d6, d7, d8⟩, ⟨A2', c2', e1⟩, ⟨b3', o3, c3, f1, f2, f3, f4⟩, ⟨b4', o4, c4, g1', g2', g3'⟩⟩ := hex
    have HX := Lib.hid (And.intro hX (And.intro hfa g3'))
    clear hX hfa g3' k6
    go_upto_region 11 with (fail)
    refine wp_region_ext X9 (by kernel_rfl) (by kernel_rfl) ?_
    repeat (go_big_quiet_step (fail))
    refine wpQuiet_nil (fun v => ?_)
    go_upto_region 13 with (fail)
    refine wp_region_more X9 v (by kernel_rfl) (by kernel_rfl) ?_
    iterate 17 (go_big_quiet_step (fail))
    have heq := eq_lim
    go_big_quiet_want
    refine quiet_load_at _ _ rfl b4' o4 rfl (znV limZ) _ (fun w9 hw9 j u hu => by obtain ⟨u9, rfl⟩ := hw9; rw [ext_cell _ _ g2']; exact HX.out.2.2 j u hu) Try.underlying42 rfl (by kernel_rfl) ?_
    go_simp
    go_big_quiet_on
    go_big_quiet_step ((go_at_call 14; exact Calls.in_ext (limits_any _)))
    repeat (go_big_quiet_step (fail))
    refine wpQuiet_nil (fun v2 => ?_)
    clear heq
    have hE1 : Elems tFa ((ext X9 v2).alloc (.cells #[.int .i64 8, .int .i64 7, .int .i64 9, .int .i64 10, .int .i64 7, .int .i64 8, .int .i64 9, .int .i64 7, .int .i64 (-1)] 81)) ((ext X9 v2).heap.size + 1) gA [(8, 7, 9), (10, 7, 8), (9, 7, -1)] :=
      HX.out.2.1.keep ((below_ext X9 v2).alloc (size_ext _ _) _) (by have := size_ext X9 v2; omega)
    have hE2 : Elems tFa ((ext X9 v2).alloc (.cells #[.int .i64 8, .int .i64 7, .int .i64 9, .int .i64 10, .int .i64 7, .int .i64 8, .int .i64 9, .int .i64 7, .int .i64 (-1)] 81)) ((ext X9 v2).heap.size + 1) (some ⟨(ext X9 v2).heap.size, 0, none⟩) [(8, 7, 9), (10, 7, 8), (9, 7, -1)] :=
      Elems.of_block [[.int .i64 8, .int .i64 7, .int .i64 9], [.int .i64 10, .int .i64 7, .int .i64 8], [.int .i64 9, .int .i64 7, .int .i64 (-1)]] (Bk.new _ _ _) (by omega) rfl (fun i hi => by
        rcases (show i = 0 ∨ i = 1 ∨ i = 2 by simp at hi; omega) with rfl | rfl | rfl
        · exact fa_rd _ _ (by unfold fits; omega) (by unfold fits; omega) (by unfold fits; omega)
        · exact fa_rd _ _ (by unfold fits; omega) (by unfold fits; omega) (by unfold fits; omega)
        · exact fa_rd _ _ (by unfold fits; omega) (by unfold fits; omega) (by unfold fits; omega)) rfl
    have HE := Lib.hid (And.intro hE1 hE2)
    clear hE1 hE2
    have hsame : sameL [((8 : Int), (7 : Int), (9 : Int)), (10, 7, 8), (9, 7, -1)] [(8, 7, 9), (10, 7, 8), (9, 7, -1)] = true := by decide
    have HS := Lib.hid hsame
    clear hsame
    go_wp2_with (go_at_call 17; refine (faults_any gA [(8, 7, 9), (10, 7, 8), (9, 7, -1)] 3 gc _ [(8, 7, 9), (10, 7, 8), (9, 7, -1)] 3 3 _ ((ext X9 v2).heap.size + 1) HE.out.1 HE.out.2 (by simp) rfl rfl (by decide) (by decide)).mono ?_; rw [HS.out]; rintro e wZ ⟨rfl, hbZ⟩; have HZ := Lib.hid hbZ; clear hbZ)
    go_ret
    exact ⟨rfl, Below.trans0 (Below.alloc0 (Below.ext0 HX.out.1 _) _) HZ.out⟩
end Go.Proofs.Ytecjhniomjmocaa
