/- PriceTop: the greatest resale price is at most the face value for ratios up to 1, at least it for ratios from 1 on, and the same without the other lines; for every right bill and ratio; no condition. -/
import Derived.Test.YtdacfopdalgkaaaPriceS
namespace Go.Proofs.Ytdacfopdalgkaaa
open Go.RowKit Go.ChangeAt
set_option linter.unusedVariables false
set_option linter.unusedSimpArgs false
attribute [local go_sem] ext_cell ext_frozen lt_ext ext_drew

theorem face_is (f : Int) (A : Option Addr) (ls : List Ln) (cap n : Nat) (total : Int) (w : World) (B : Nat) (h : Elems tLine w B A ls) (hB : B ≤ w.heap.size) (hn : ls.length = n) (hl : n ≤ 60) (hr : Hid (rightB ls total = true)) (hf : Hid (partOf 1 ls = f)) :
    Calls Try.prog 20 #[.agg #[.slice A n cap, .int .i64 total]] w fun e w' => e = .returned (.int .i64 f) ∧ Below w.heap.size w w' := by
  subst hn
  have hall : ls.all lineB = true := by have := hr.out; simp only [rightB, Bool.and_eq_true] at this; exact this.1.1.2
  have := face_any A ls cap total w B h hB hl hall
  rwa [hf.out] at this

theorem top_laws {ls : List Ln} {total num den f t e : Int} (hr : rightB ls total = true) (h : ratioB num den = true) (hf : partOf 1 ls = f) (ht : backV 1 ls total num den = t) (he : backE 1 ls total num den = e) :
    0 ≤ f ∧ f ≤ 1000000000 ∧ backV 1 [(1, f)] f num den = t ∧ backE 1 [(1, f)] f num den = e ∧ (e = 0 ∧ (den < num ∨ t ≤ f) ∧ (num < den ∨ f ≤ t) ∨ e = 2 ∧ den < num) := by
  have hd := ratioB_out h
  have hr' := hr
  simp only [rightB, Bool.and_eq_true, decide_eq_true_eq] at hr'
  obtain ⟨⟨⟨_, hall⟩, hs⟩, hm⟩ := hr'
  have hp := partOf_bd 1 ls hall
  rw [hf] at hp
  have f1 : f ≤ 1000000000 := by omega
  have hrb : rightB [(1, f)] f = true := by simp [rightB, lineB, sumOf]; omega
  have hpb : partOf 1 [(1, f)] = f := by simp [partOf, pickB, sumOf]
  unfold backV at ht ⊢
  unfold backE at he ⊢
  rw [if_pos hr, hf] at ht he
  rw [if_pos hrb, if_pos hrb, hpb]
  refine ⟨hp.1, f1, ht, he, ?_⟩
  have hv : validB f = true := validB_in (by omega)
  obtain ⟨e1, e2⟩ := share_is (v := roundP (f * num) den) hv h rfl
  rw [e1] at ht
  rw [e2] at he
  have b0 : 0 ≤ roundP (f * num) den := round_nonneg (by omega) (Int.mul_nonneg hp.1 hd.1)
  by_cases hle : num ≤ den
  · have b1 := round_le (n := f) (num := num) (den := den) (by omega) hp.1 hle
    rw [if_pos (validB_in (by omega))] at ht he
    refine .inl ⟨he.symm, .inr (by omega), ?_⟩
    by_cases h2 : num < den
    · exact .inl h2
    · have b2 := round_ge (n := f) (num := num) (den := den) (by omega) hp.1 (by omega)
      exact .inr (by omega)
  · by_cases hvv : validB (roundP (f * num) den) = true
    · rw [if_pos hvv] at ht he
      have b2 := round_ge (n := f) (num := num) (den := den) (by omega) hp.1 (by omega)
      exact .inl ⟨he.symm, .inl (by omega), .inr (by omega)⟩
    · rw [if_neg hvv] at he
      exact .inr ⟨he.symm, by omega⟩

set_option maxRecDepth 100000 in
set_option maxHeartbeats 2000000 in
theorem top_walk (A : Option Addr) (ls : List Ln) (cap : Nat) (total num den : Int) (w : World) (h : Elems tLine w w.heap.size A ls) (hm : ls.length ≤ 9223372036854775807) (ht : fits total) (hnd : fits num ∧ fits den) :
    Calls Try.prog 8 #[.agg #[.slice A ls.length cap, .int .i64 total], .agg #[.int .i64 num, .int .i64 den]] w fun e w' => e = .returned (.bool true) ∧ Below w.heap.size w w' := by
  obtain ⟨r, hr⟩ : ∃ r, rightB ls total = r := ⟨_, rfl⟩
  obtain ⟨q, hq⟩ : ∃ q, ratioB num den = q := ⟨_, rfl⟩
  have Hr := Lib.hid hr
  have Hq := Lib.hid hq
  have H := Lib.hid h
  clear h hr hq
  go_enter Try.func8, Try.ntmps8
  go_wp2_with fail
  refine (head_any _).mono ?_
  rintro e w1 ⟨rfl, hb⟩
  have b1 := ((Bk.new w #[.slice A ls.length cap, .int .i64 total] 28).alloc (.cells #[.int .i64 num, .int .i64 den] 23)).below hb
  have b2 := (bk_next w (.cells #[.slice A ls.length cap, .int .i64 total] 28) #[.int .i64 num, .int .i64 den] 23).below hb
  have hw := Below.trans0 (Below.alloc0 (below_self w _) _) hb
  have hE := H.out.keep hw hw.size
  have HW := Lib.hid (And.intro hw (And.intro b1 b2))
  have HE := Lib.hid hE
  have c1 := b1.cell
  have l1 := b1.lt
  have c2 := b2.cell
  have l2 := b2.lt
  clear hb b1 b2 hw hE H
  by_cases h60 : 60 < (ls.length : Int)
  · as_aux_lemma =>
      go_wp2_with fail
      go_ret
      exact ⟨rfl, HW.out.1⟩
  · have h60' : ls.length ≤ 60 := by omega
    cases r
    · as_aux_lemma =>
        go_wp2_with (go_at_call 18; refine (right_is false _ ls _ _ _ _ w1.heap.size HE.out (Nat.le_refl _) rfl h60' ht Hr).mono ?_; rintro e w' ⟨rfl, hb⟩; (first | (obtain ⟨u, rfl⟩ := ext_more hb; clear hb) | (obtain ⟨u, rfl⟩ := ext_more_alloc hb; clear hb) | (obtain ⟨u, rfl⟩ := ext_of hb; clear hb)))
        go_ret
        exact ⟨rfl, by have hw := HW.out.1; (repeat (first | with_reducible exact Below.refl _ _ | with_reducible assumption | with_reducible refine Below.alloc0 ?_ _ | with_reducible refine Below.ext0 ?_ _ | with_reducible refine Below.drew ?_ | with_reducible refine below_drewN ?_ _ | (with_reducible refine Below.setCell (hp := ?hp) ?_ _; case hp => (first | (simp; done) | (simp; omega)))))⟩
    · cases q
      · as_aux_lemma =>
          go_wp2_with (first
            | (go_at_call 18; refine (right_is true _ ls _ _ _ _ w1.heap.size HE.out (Nat.le_refl _) rfl h60' ht Hr).mono ?_; rintro e w' ⟨rfl, hb⟩; (first | (obtain ⟨u, rfl⟩ := ext_more hb; clear hb) | (obtain ⟨u, rfl⟩ := ext_more_alloc hb; clear hb) | (obtain ⟨u, rfl⟩ := ext_of hb; clear hb)))
            | (go_at_call 19; refine (rratio_is false _ _ _ Hq).mono ?_; rintro e w' ⟨rfl, hb⟩; (first | (obtain ⟨u, rfl⟩ := ext_more hb; clear hb) | (obtain ⟨u, rfl⟩ := ext_more_alloc hb; clear hb) | (obtain ⟨u, rfl⟩ := ext_of hb; clear hb))))
          go_ret
          exact ⟨rfl, by have hw := HW.out.1; (repeat (first | with_reducible exact Below.refl _ _ | with_reducible assumption | with_reducible refine Below.alloc0 ?_ _ | with_reducible refine Below.ext0 ?_ _ | with_reducible refine Below.drew ?_ | with_reducible refine below_drewN ?_ _ | (with_reducible refine Below.setCell (hp := ?hp) ?_ _; case hp => (first | (simp; done) | (simp; omega)))))⟩
      · obtain ⟨f, hf⟩ : ∃ f, partOf 1 ls = f := ⟨_, rfl⟩
        obtain ⟨t, htv⟩ : ∃ t, backV 1 ls total num den = t := ⟨_, rfl⟩
        obtain ⟨er, her⟩ : ∃ t, backE 1 ls total num den = t := ⟨_, rfl⟩
        obtain ⟨f0, f1, v2, e2, hcase⟩ := top_laws Hr.out Hq.out hf htv her
        have HF := Lib.hid hf
        have V1 := Lib.hid htv
        have E1 := Lib.hid her
        have V2 := Lib.hid v2
        have E2 := Lib.hid e2
        clear hf htv her v2 e2 hnd
        as_aux_lemma =>
          go_upto_region 6 with (first
            | (go_at_call 18; refine (right_is true _ ls _ _ _ _ w1.heap.size HE.out (Nat.le_refl _) rfl h60' ht Hr).mono ?_; rintro e w' ⟨rfl, hb⟩; (first | (obtain ⟨u, rfl⟩ := ext_more hb; clear hb) | (obtain ⟨u, rfl⟩ := ext_more_alloc hb; clear hb) | (obtain ⟨u, rfl⟩ := ext_of hb; clear hb)))
            | (go_at_call 19; refine (rratio_is true _ _ _ Hq).mono ?_; rintro e w' ⟨rfl, hb⟩; (first | (obtain ⟨u, rfl⟩ := ext_more hb; clear hb) | (obtain ⟨u, rfl⟩ := ext_more_alloc hb; clear hb) | (obtain ⟨u, rfl⟩ := ext_of hb; clear hb)))
            | (go_at_call 20; refine (face_is f _ ls _ _ _ _ w1.heap.size (HE.out.ext (Nat.le_refl _) _) (size_ext _ _) rfl h60' Hr HF).mono ?_; rintro e w' ⟨rfl, hb⟩; obtain ⟨u9, rfl⟩ := ext_more hb; clear hb))
          refine forget (fun W => Below w.heap.size w W ∧ Bk W w.heap.size #[.slice A ls.length cap, .int .i64 total] 28 ∧ Bk W (w.heap.size + 1) #[.int .i64 num, .int .i64 den] 23 ∧ Elems tLine W W.heap.size A ls ∧ Bk W ((ext w1 u9).heap.size + 1) #[.slice (some ⟨(ext w1 u9).heap.size, 0, none⟩) 1 1, .int .i64 f] 28 ∧ Elems tLine W W.heap.size (some ⟨(ext w1 u9).heap.size, 0, none⟩) [(1, f)]) ⟨?_, ?_, ?_, ?_, ?_, ?_⟩ ?_
          · have hw := HW.out.1; (repeat (first | with_reducible exact Below.refl _ _ | with_reducible assumption | with_reducible refine Below.alloc0 ?_ _ | with_reducible refine Below.ext0 ?_ _ | with_reducible refine Below.drew ?_ | with_reducible refine below_drewN ?_ _ | (with_reducible refine Below.setCell (hp := ?hp) ?_ _; case hp => (first | (simp; done) | (simp; omega)))))
          · exact ((HW.out.2.1.ext u9).alloc _).alloc _
          · exact ((HW.out.2.2.ext u9).alloc _).alloc _
          · exact HE.out.keep (Below.alloc0 (Below.alloc0 (below_ext w1 u9) _) _) (Below.alloc0 (Below.alloc0 (below_ext w1 u9) _) _).size
          · exact bk_next _ _ _ _
          · have hk := (Bk.new (ext w1 u9) #[.int .i64 1, .int .i64 f] 38).alloc (.cells #[.slice (some ⟨(ext w1 u9).heap.size, 0, none⟩) 1 1, .int .i64 f] 28)
            exact Elems.of_block (T := tLine) [[.int .i64 1, .int .i64 f]] hk hk.lt rfl (by
              intro i hi
              have h3 : i = 0 := by simpa using hi
              subst h3
              exact tPair_mk (c1 := [.int .i64 _]) (c2 := [.int .i64 _]) ⟨rfl, by simp⟩ ⟨rfl, (by show fits f; unfold fits; omega)⟩) rfl
          generalize (ext w1 u9).heap.size = g at *
          clear HW HE c1 c2 l1 l2
          rintro W ⟨hw, b1, b2, hE, b3, hE2⟩
          have HW := Lib.hid hw
          have HE := Lib.hid hE
          have HE2 := Lib.hid hE2
          have c1 := b1.cell
          have l1 := b1.lt
          have c2 := b2.cell
          have l2 := b2.lt
          have c3 := b3.cell
          have l3 := b3.lt
          clear hw b1 b2 b3 hE hE2
          have ff : fits f := by unfold fits; omega
          have HC := Lib.hid hcase
          clear hcase
          go_upto_region 8 with (first
            | (go_at_call 14; first
              | ((with_reducible refine (top_is t er A ls _ _ _ _ _ _ W.heap.size (by first | exact HE.out | exact HE.out.ext (Nat.le_refl _) _) (by first | exact Nat.le_refl _ | exact size_ext _ _) rfl h60' ht V1 E1).mono ?_); rintro e w' ⟨rfl, hb⟩; (first | (obtain ⟨u, rfl⟩ := ext_more hb; clear hb) | (obtain ⟨u, rfl⟩ := ext_more_alloc hb; clear hb) | (obtain ⟨u, rfl⟩ := ext_of hb; clear hb)))
              | ((with_reducible refine (top_is t er (some ⟨g, 0, none⟩) [(1, f)] _ _ _ _ _ _ W.heap.size (HE2.out.ext (Nat.le_refl _) _) (size_ext _ _) (by simp) (by simp) ff V2 E2).mono ?_); rintro e w' ⟨rfl, hb⟩; (first | (obtain ⟨u, rfl⟩ := ext_more hb; clear hb) | (obtain ⟨u, rfl⟩ := ext_more_alloc hb; clear hb) | (obtain ⟨u, rfl⟩ := ext_of hb; clear hb)))))
          rcases HC.out with ⟨rfl, d1, d2⟩ | ⟨rfl, d1⟩
          · by_cases g1 : den < num
            · have g2 : f ≤ t := by omega
              go_wp2_with fail
              all_goals go_ret
              all_goals exact ⟨ret_bool (by simp; try omega), by have hw := HW.out; (repeat (first | with_reducible exact Below.refl _ _ | with_reducible assumption | with_reducible refine Below.alloc0 ?_ _ | with_reducible refine Below.ext0 ?_ _ | with_reducible refine Below.drew ?_ | with_reducible refine below_drewN ?_ _ | (with_reducible refine Below.setCell (hp := ?hp) ?_ _; case hp => (first | (simp; done) | (simp; omega)))))⟩
            · have g2 : t ≤ f := by omega
              by_cases g3 : num < den
              · go_wp2_with fail
                all_goals go_ret
                all_goals exact ⟨ret_bool (by simp; try omega), by have hw := HW.out; (repeat (first | with_reducible exact Below.refl _ _ | with_reducible assumption | with_reducible refine Below.alloc0 ?_ _ | with_reducible refine Below.ext0 ?_ _ | with_reducible refine Below.drew ?_ | with_reducible refine below_drewN ?_ _ | (with_reducible refine Below.setCell (hp := ?hp) ?_ _; case hp => (first | (simp; done) | (simp; omega)))))⟩
              · have g4 : f ≤ t := by omega
                go_wp2_with fail
                all_goals go_ret
                all_goals exact ⟨ret_bool (by simp; try omega), by have hw := HW.out; (repeat (first | with_reducible exact Below.refl _ _ | with_reducible assumption | with_reducible refine Below.alloc0 ?_ _ | with_reducible refine Below.ext0 ?_ _ | with_reducible refine Below.drew ?_ | with_reducible refine below_drewN ?_ _ | (with_reducible refine Below.setCell (hp := ?hp) ?_ _; case hp => (first | (simp; done) | (simp; omega)))))⟩
          · go_wp2_with fail
            all_goals go_ret
            all_goals exact ⟨ret_bool (by simp; try omega), by have hw := HW.out; (repeat (first | with_reducible exact Below.refl _ _ | with_reducible assumption | with_reducible refine Below.alloc0 ?_ _ | with_reducible refine Below.ext0 ?_ _ | with_reducible refine Below.drew ?_ | with_reducible refine below_drewN ?_ _ | (with_reducible refine Below.setCell (hp := ?hp) ?_ _; case hp => (first | (simp; done) | (simp; omega)))))⟩

set_option maxRecDepth 100000 in
theorem priceTop_lifted (os : Os) (started : os.Started) (H : Type) (enc : TypeId × Value → H) :
    ReturnsInHanded {} Try.checked os 8 .any (Rows.priceTopSpec.pre6 enc Try.prog Try.f8 [] false) (Rows.priceTopSpec.post enc Try.prog Try.f8 false true false false) := by
  refine law_lifted (C := Try.checked) own started (by kernel_rfl) Try.func8 rfl (fun ds hds => ?_) (tb := 4) (by kernel_rfl) Try.underlying4 laidOut (fun t ht => ?_)
    (ChangeSpec.witness6 (enc := enc) (C := Try.checked) false ⟨#[], #[.agg #[.slice none 0 0, .int .i64 0], .agg #[.int .i64 0, .int .i64 0]], []⟩ 8 (by kernel_rfl) (by kernel_rfl) (by kernel_rfl) (by kernel_rfl)) ?_
  · rw [Try.params8] at hds
    match ds, hds with
    | [_, _], _ => rfl
  · have := List.all_eq_true.1 (show (Try.f8.params.toList.all fun t => Try.prog.readableRec t && decide (t < Try.prog.types.size)) = true by kernel_rfl) t ht
    simp only [Bool.and_eq_true, decide_eq_true_eq] at this
    exact this
  · intro W args g
    rw [Try.params8] at g
    obtain ⟨v0, q0, e0, g0, h0⟩ := g.cons_inv
    obtain ⟨v1, q1, rfl, g1, h1⟩ := h0.cons_inv
    obtain rfl := h1.nil_inv
    obtain rfl : args = #[v0, v1] := by cases args; simp_all
    obtain ⟨c2, y2, rfl, r2⟩ := g0.agg Try.underlying28 opensBill
    obtain ⟨c3, y3, rfl, r3⟩ := g1.agg Try.underlying23 opensRat
    obtain ⟨A, cap, rfl, b1, b2, b3, b4⟩ := bill_of r2
    obtain ⟨rfl, hnd⟩ := rat_of r3
    exact top_walk A y2.1 cap y2.2 _ _ W b3 (by unfold maxLen at b2; omega) b4 hnd

theorem priceTop_holds : Rows.PriceTopSaid :=
  OpenClaim.holds_of_wide 8 Try.f8 rfl rfl rfl rfl rfl rfl rfl ⟨rfl, rfl, rfl, rfl, rfl⟩ rfl rfl rfl rfl rfl (by kernel_rfl) Try.func8 (by kernel_rfl)
    (of_decide_eq_true (by kernel_rfl)) (by unfold Func.isWrapper; first | (rw [if_pos (by decide +kernel)]; kernel_rfl) | (rw [if_neg (by decide +kernel)]; exact ⟨rfl, rfl⟩))
    (fun os started H enc _ => priceTop_lifted os started H enc)
#print axioms priceTop_holds
end Go.Proofs.Ytdacfopdalgkaaa
