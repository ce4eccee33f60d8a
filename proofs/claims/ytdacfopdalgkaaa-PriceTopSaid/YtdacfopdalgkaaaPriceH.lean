/- Layer 17 (price): the reference's Quote. -/
import Derived.Test.YtdacfopdalgkaaaPriceG
namespace Go.Proofs.Ytdacfopdalgkaaa
open Go.RowKit
set_option linter.unusedVariables false
set_option linter.unusedSimpArgs false
attribute [local go_sem] ext_cell ext_frozen lt_ext ext_drew

set_option maxRecDepth 100000 in
set_option maxHeartbeats 4000000 in
theorem rquote_bad (al to si : Bool) (lim price fn fd tn td cn cd sn sd rn rd y n : Int) (w : World) (h : n < 1 ∨ 12 < n ∨ price < 0 ∨ 1000000000 < price ∨ ratioB fn fd = false ∨ ratioB tn td = false) (hE : Hid (quoteE al price fn fd tn td n = 1)) :
    Calls Try.prog 11 #[.agg (decCells al to si lim price fn fd tn td cn cd sn sd rn rd y), .int .i64 n] w (Quoted w (quoteE al price fn fd tn td n) (quoteL al price fn fd tn td n)) := by
  rw [quoteL_err hE.out (by decide), hE.out]
  clear hE
  unfold decCells
  obtain ⟨b, hb⟩ : ∃ b, ratioB fn fd = b := ⟨_, rfl⟩
  obtain ⟨c, hc⟩ : ∃ c, ratioB tn td = c := ⟨_, rfl⟩
  rw [hb, hc] at h
  have Hb := Lib.hid hb
  have Hc := Lib.hid hc
  clear hb hc
  rcases h with h | h | h | h | rfl | rfl
  all_goals
    go_enter Try.func11, Try.ntmps11
    go_wp2_with (go_at_call 19; first | ((with_reducible refine (rratio_is _ _ _ _ Hb).mono ?_); rintro e w' ⟨rfl, hb⟩; (first | (obtain ⟨u, rfl⟩ := ext_more hb; clear hb) | (obtain ⟨u, rfl⟩ := ext_more_alloc hb; clear hb) | (obtain ⟨u, rfl⟩ := ext_of hb; clear hb))) | ((with_reducible refine (rratio_is _ _ _ _ Hc).mono ?_); rintro e w' ⟨rfl, hb⟩; (first | (obtain ⟨u, rfl⟩ := ext_more hb; clear hb) | (obtain ⟨u, rfl⟩ := ext_more_alloc hb; clear hb) | (obtain ⟨u, rfl⟩ := ext_of hb; clear hb))))
    all_goals (exact bodyPost_ret (v := .tuple #[.agg #[.slice none 0 0, .int .i64 0], .int .i64 1]) (by simp [results, Try.results11, go_sem]) rfl (quoted_none _ _ 1 (by (repeat (first | with_reducible exact Below.refl _ _ | with_reducible assumption | with_reducible refine Below.alloc0 ?_ _ | with_reducible refine Below.ext0 ?_ _ | with_reducible refine Below.drew ?_ | with_reducible refine below_drewN ?_ _ | (with_reducible refine Below.setCell (hp := ?hp) ?_ _; case hp => (first | (simp; done) | (simp; omega)))))) _ rfl))

set_option maxRecDepth 100000 in
set_option maxHeartbeats 4000000 in
theorem rquote_denied (to si : Bool) (lim price fn fd tn td cn cd sn sd rn rd y n : Int) (w : World) (h1 : 1 ≤ n) (h2 : n ≤ 12) (h3 : 0 ≤ price) (h4 : price ≤ 1000000000) (h5 : Hid (ratioB fn fd = true)) (h6 : Hid (ratioB tn td = true)) :
    Calls Try.prog 11 #[.agg (decCells false to si lim price fn fd tn td cn cd sn sd rn rd y), .int .i64 n] w (Quoted w 15 []) := by
  unfold decCells
  go_enter Try.func11, Try.ntmps11
  go_wp2_with (go_at_call 19; first | ((with_reducible refine (rratio_is _ _ _ _ h5).mono ?_); rintro e w' ⟨rfl, hb⟩; (first | (obtain ⟨u, rfl⟩ := ext_more hb; clear hb) | (obtain ⟨u, rfl⟩ := ext_more_alloc hb; clear hb) | (obtain ⟨u, rfl⟩ := ext_of hb; clear hb))) | ((with_reducible refine (rratio_is _ _ _ _ h6).mono ?_); rintro e w' ⟨rfl, hb⟩; (first | (obtain ⟨u, rfl⟩ := ext_more hb; clear hb) | (obtain ⟨u, rfl⟩ := ext_more_alloc hb; clear hb) | (obtain ⟨u, rfl⟩ := ext_of hb; clear hb))))
  exact bodyPost_ret (v := .tuple #[.agg #[.slice none 0 0, .int .i64 0], .int .i64 15]) (by simp [results, Try.results11, go_sem]) rfl (quoted_none _ _ 15 (by (repeat (first | with_reducible exact Below.refl _ _ | with_reducible assumption | with_reducible refine Below.alloc0 ?_ _ | with_reducible refine Below.ext0 ?_ _ | with_reducible refine Below.drew ?_ | with_reducible refine below_drewN ?_ _ | (with_reducible refine Below.setCell (hp := ?hp) ?_ _; case hp => (first | (simp; done) | (simp; omega)))))) _ rfl)

theorem bk_new_at (X : World) (g : Nat) (C : Array Value) (t : TypeId) (h : X.heap.size = g) : Bk (X.alloc (.cells C t)) g C t := by
  subst h; exact Bk.new _ _ _
theorem quoted_three (w w' : World) (g : Nat) (a b c t : Int) (e : Ending) (hg : Bk w' g #[.int .i64 1, .int .i64 a, .int .i64 2, .int .i64 b, .int .i64 3, .int .i64 c] 38) (hb : Below w.heap.size w w') (ha : fits a ∧ fits b ∧ fits c) (ht : t = a + b + c) (hfr : w.heap.size ≤ g)
    (he : e = .returned (.tuple #[.agg #[.slice (some ⟨g, 0, none⟩) 3 3, .int .i64 t], .int .i64 0])) : Quoted w 0 [(1, a), (2, b), (3, c)] e w' := by
  subst ht
  refine ⟨some ⟨g, 0, none⟩, 3, ?_, ?_, by simp, by simp [maxLen], (fun g' off s h => by simp only [Option.some.injEq, Addr.mk.injEq] at h; omega), hb⟩
  · rw [he]; simp [sumOf]; omega
  · refine Elems.of_block (T := tLine) [[.int .i64 1, .int .i64 a], [.int .i64 2, .int .i64 b], [.int .i64 3, .int .i64 c]] hg hg.lt rfl ?_ rfl
    intro i hi
    have h3 : i = 0 ∨ i = 1 ∨ i = 2 := by simp at hi; omega
    rcases h3 with rfl | rfl | rfl
    · exact tPair_mk (c1 := [.int .i64 _]) (c2 := [.int .i64 _]) ⟨rfl, by simp⟩ ⟨rfl, ha.1⟩
    · exact tPair_mk (c1 := [.int .i64 _]) (c2 := [.int .i64 _]) ⟨rfl, by simp⟩ ⟨rfl, ha.2.1⟩
    · exact tPair_mk (c1 := [.int .i64 _]) (c2 := [.int .i64 _]) ⟨rfl, by simp⟩ ⟨rfl, ha.2.2⟩

/-- The answer, from the five tests. -/
theorem quote_tests (n price fn fd tn td : Int) (h1 : 1 ≤ n) (h2 : n ≤ 12) (h3 : 0 ≤ price) (h4 : price ≤ 1000000000) (h5 : ratioB fn fd = true) (h6 : ratioB tn td = true) (F r1 r2 : Int) (hF : n * price = F) (hr1 : roundP (F * fn) fd = r1) (hr2 : roundP ((F + r1) * tn) td = r2) :
    quoteE true price fn fd tn td n = (if validB F && validB r1 && validB (F + r1) && validB r2 && validB (F + r1 + r2) then 0 else 2) ∧ qFace price n = F ∧ qFee price fn fd n = r1 ∧ qTax price fn fd tn td n = r2 := by
  subst hF
  subst hr1
  subst hr2
  refine ⟨?_, rfl, rfl, rfl⟩
  unfold quoteE
  rw [if_pos (by rw [h5, h6]; simp; omega), if_pos rfl]

set_option maxRecDepth 100000 in
set_option maxHeartbeats 2000000 in
theorem rquote_ok (to si : Bool) (lim price fn fd tn td cn cd sn sd rn rd y n : Int) (w : World) (h1 : 1 ≤ n) (h2 : n ≤ 12) (h3 : 0 ≤ price) (h4 : price ≤ 1000000000) (h5 : Hid (ratioB fn fd = true)) (h6 : Hid (ratioB tn td = true)) :
    Calls Try.prog 11 #[.agg (decCells true to si lim price fn fd tn td cn cd sn sd rn rd y), .int .i64 n] w (Quoted w (quoteE true price fn fd tn td n) (quoteL true price fn fd tn td n)) := by
  unfold decCells
  obtain ⟨p1, p2⟩ := mul_bd (a := price) (b := n) (A := 1000000000) (B := 12) (by omega) h4 (by omega) h2
  have ec : price * n = n * price := Int.mul_comm ..
  rw [ec] at p1 p2
  clear ec
  obtain ⟨F, hF⟩ : ∃ F, n * price = F := ⟨_, rfl⟩
  obtain ⟨r1, hr1⟩ : ∃ r, roundP (F * fn) fd = r := ⟨_, rfl⟩
  obtain ⟨r2, hr2⟩ : ∃ r, roundP ((F + r1) * tn) td = r := ⟨_, rfl⟩
  obtain ⟨q1, q2, q3, q4⟩ := quote_tests n price fn fd tn td h1 h2 h3 h4 h5.out h6.out F r1 r2 hF hr1 hr2
  obtain ⟨a, ha⟩ : ∃ a, validB F = a := ⟨_, rfl⟩
  obtain ⟨b, hb⟩ : ∃ a, validB r1 = a := ⟨_, rfl⟩
  obtain ⟨c, hc⟩ : ∃ a, validB (F + r1) = a := ⟨_, rfl⟩
  obtain ⟨d, hd⟩ : ∃ a, validB r2 = a := ⟨_, rfl⟩
  obtain ⟨f, hf⟩ : ∃ a, validB (F + r1 + r2) = a := ⟨_, rfl⟩
  have Hq : Hid (quoteE true price fn fd tn td n = (if a && b && c && d && f then 0 else 2) ∧ quoteL true price fn fd tn td n = (if a && b && c && d && f then [(1, F), (2, r1), (3, r2)] else [])) := by
    have e : quoteE true price fn fd tn td n = (if a && b && c && d && f then 0 else 2) := by rw [q1, ha, hb, hc, hd, hf]
    refine ⟨e, ?_⟩
    unfold quoteL
    rw [e, q2, q3, q4]
    cases a <;> cases b <;> cases c <;> cases d <;> cases f <;> rfl
  have HF := Lib.hid hF
  have Hr1 := Lib.hid hr1
  have Hr2 := Lib.hid hr2
  have Ha := Lib.hid ha
  have Hb := Lib.hid hb
  have Hc := Lib.hid hc
  have Hd := Lib.hid hd
  have Hf := Lib.hid hf
  rw [hF] at p1 p2
  clear q1 q2 q3 q4 ha hb hc hd hf hr1 hr2
  go_enter Try.func11, Try.ntmps11
  go_upto_region 5 with (go_at_call 19; first | ((with_reducible refine (rratio_is _ _ _ _ h5).mono ?_); rintro e w' ⟨rfl, hb⟩; (first | (obtain ⟨u, rfl⟩ := ext_more hb; clear hb) | (obtain ⟨u, rfl⟩ := ext_more_alloc hb; clear hb) | (obtain ⟨u, rfl⟩ := ext_of hb; clear hb))) | ((with_reducible refine (rratio_is _ _ _ _ h6).mono ?_); rintro e w' ⟨rfl, hb⟩; (first | (obtain ⟨u, rfl⟩ := ext_more hb; clear hb) | (obtain ⟨u, rfl⟩ := ext_more_alloc hb; clear hb) | (obtain ⟨u, rfl⟩ := ext_of hb; clear hb))))
  refine forget (fun W => Below w.heap.size w W ∧ Bk W w.heap.size #[.bool true, .bool to, .bool si, .int .i64 lim, .int .i64 price, .int .i64 fn, .int .i64 fd, .int .i64 tn, .int .i64 td, .int .i64 cn, .int .i64 cd, .int .i64 sn, .int .i64 sd, .int .i64 rn, .int .i64 rd, .int .i64 y] 25 ∧ Bk W (w.heap.size + 1) #[.slice none 0 0, .int .i64 0] 28) ⟨?_, ?_, ?_⟩ ?_
  · (repeat (first | with_reducible exact Below.refl _ _ | with_reducible assumption | with_reducible refine Below.alloc0 ?_ _ | with_reducible refine Below.ext0 ?_ _ | with_reducible refine Below.drew ?_ | with_reducible refine below_drewN ?_ _ | (with_reducible refine Below.setCell (hp := ?hp) ?_ _; case hp => (first | (simp; done) | (simp; omega)))))
  · exact ((Bk.new w _ _).alloc _).ext _
  · exact (bk_next w _ _ _).ext _
  rintro W ⟨hw, bD, bR⟩
  have hsw := hw.size
  have cD := bD.cell
  have lD := bD.lt
  have cR := bR.cell
  have fR := bR.free
  have lR := bR.lt
  clear bD bR
  go_upto_region 6 with (fail)
  clear hF
  go_wp2_with fail
  refine (rvalid_is a _ _ Ha).mono ?_
  rintro e w1 ⟨rfl, rfl⟩
  cases a
  · go_wp2_with fail
    exact bodyPost_ret (v := .tuple #[.agg #[.slice none 0 0, .int .i64 0], .int .i64 2]) (by simp [results, Try.results11, go_sem, *]) rfl (by
      rw [Hq.out.1, Hq.out.2]
      exact quoted_none _ _ 2 (by (repeat (first | with_reducible exact Below.refl _ _ | with_reducible assumption | with_reducible refine Below.alloc0 ?_ _ | with_reducible refine Below.ext0 ?_ _ | with_reducible refine Below.drew ?_ | with_reducible refine below_drewN ?_ _ | (with_reducible refine Below.setCell (hp := ?hp) ?_ _; case hp => (first | (simp; done) | (simp; omega)))))) _ rfl)
  · have hFv := validB_out Ha.out
    obtain ⟨s1, s2⟩ := share_is (num := fn) (den := fd) (v := r1) Ha.out h5.out Hr1.out
    rw [Hb.out] at s1 s2
    have S1 := Lib.hid s1
    have S2 := Lib.hid s2
    clear s1 s2
    cases b
    · go_wp2_with fail
      refine (rshare_two 0 2 _ _ _ _ S1 S2).mono ?_
      rintro e w2 ⟨rfl, hb⟩
      obtain ⟨u1, rfl⟩ := ext_of hb
      clear hb
      go_wp2_with fail
      exact bodyPost_ret (v := .tuple #[.agg #[.slice none 0 0, .int .i64 0], .int .i64 2]) (by simp [results, Try.results11, go_sem, *]) rfl (by
        rw [Hq.out.1, Hq.out.2]
        exact quoted_none _ _ 2 (by (repeat (first | with_reducible exact Below.refl _ _ | with_reducible assumption | with_reducible refine Below.alloc0 ?_ _ | with_reducible refine Below.ext0 ?_ _ | with_reducible refine Below.drew ?_ | with_reducible refine below_drewN ?_ _ | (with_reducible refine Below.setCell (hp := ?hp) ?_ _; case hp => (first | (simp; done) | (simp; omega)))))) _ rfl)
    · have hr1 := validB_out Hb.out
      go_wp2_with fail
      refine (rshare_two r1 0 _ _ _ _ S1 S2).mono ?_
      rintro e w2 ⟨rfl, hb⟩
      obtain ⟨u1, rfl⟩ := ext_of hb
      clear hb
      go_wp2_with fail
      refine (rvalid_is c _ _ Hc).mono ?_
      rintro e w3 ⟨rfl, rfl⟩
      cases c
      · go_wp2_with fail
        exact bodyPost_ret (v := .tuple #[.agg #[.slice none 0 0, .int .i64 0], .int .i64 2]) (by simp [results, Try.results11, go_sem, *]) rfl (by
          rw [Hq.out.1, Hq.out.2]
          exact quoted_none _ _ 2 (by (repeat (first | with_reducible exact Below.refl _ _ | with_reducible assumption | with_reducible refine Below.alloc0 ?_ _ | with_reducible refine Below.ext0 ?_ _ | with_reducible refine Below.drew ?_ | with_reducible refine below_drewN ?_ _ | (with_reducible refine Below.setCell (hp := ?hp) ?_ _; case hp => (first | (simp; done) | (simp; omega)))))) _ rfl)
      · have hFr := validB_out Hc.out
        obtain ⟨s1, s2⟩ := share_is (num := tn) (den := td) (v := r2) Hc.out h6.out Hr2.out
        rw [Hd.out] at s1 s2
        have S3 := Lib.hid s1
        have S4 := Lib.hid s2
        clear s1 s2
        cases d
        · go_wp2_with fail
          refine (rshare_two 0 2 _ _ _ _ S3 S4).mono ?_
          rintro e w2 ⟨rfl, hb⟩
          obtain ⟨u2, rfl⟩ := ext_more hb
          clear hb
          go_wp2_with fail
          exact bodyPost_ret (v := .tuple #[.agg #[.slice none 0 0, .int .i64 0], .int .i64 2]) (by simp [results, Try.results11, go_sem, *]) rfl (by
            rw [Hq.out.1, Hq.out.2]
            exact quoted_none _ _ 2 (by (repeat (first | with_reducible exact Below.refl _ _ | with_reducible assumption | with_reducible refine Below.alloc0 ?_ _ | with_reducible refine Below.ext0 ?_ _ | with_reducible refine Below.drew ?_ | with_reducible refine below_drewN ?_ _ | (with_reducible refine Below.setCell (hp := ?hp) ?_ _; case hp => (first | (simp; done) | (simp; omega)))))) _ rfl)
        · have hr2 := validB_out Hd.out
          go_wp2_with fail
          refine (rshare_two r2 0 _ _ _ _ S3 S4).mono ?_
          rintro e w2 ⟨rfl, hb⟩
          obtain ⟨u2, rfl⟩ := ext_more hb
          clear hb
          go_wp2_with fail
          refine (rvalid_is f _ _ Hf).mono ?_
          rintro e w3 ⟨rfl, rfl⟩
          cases f
          · go_wp2_with fail
            exact bodyPost_ret (v := .tuple #[.agg #[.slice none 0 0, .int .i64 0], .int .i64 2]) (by simp [results, Try.results11, go_sem, *]) rfl (by
              rw [Hq.out.1, Hq.out.2]
              exact quoted_none _ _ 2 (by (repeat (first | with_reducible exact Below.refl _ _ | with_reducible assumption | with_reducible refine Below.alloc0 ?_ _ | with_reducible refine Below.ext0 ?_ _ | with_reducible refine Below.drew ?_ | with_reducible refine below_drewN ?_ _ | (with_reducible refine Below.setCell (hp := ?hp) ?_ _; case hp => (first | (simp; done) | (simp; omega)))))) _ rfl)
          · go_wp2_with fail
            have hz : w.heap.size < (ext W u2).heap.size := by have := size_ext W u2; omega
            exact bodyPost_ret (v := .tuple #[.agg #[.slice (some ⟨(ext W u2).heap.size, 0, none⟩) 3 3, .int .i64 (F + r1 + r2)], .int .i64 0]) (by simp [results, Try.results11, go_sem, *]) rfl (by
              rw [Hq.out.1, Hq.out.2]
              refine quoted_three _ _ _ F r1 r2 _ _ ?_ (by (repeat (first | with_reducible exact Below.refl _ _ | with_reducible assumption | with_reducible refine Below.alloc0 ?_ _ | with_reducible refine Below.ext0 ?_ _ | with_reducible refine Below.drew ?_ | with_reducible refine below_drewN ?_ _ | (with_reducible refine Below.setCell (hp := ?hp) ?_ _; case hp => (first | (simp; done) | (simp; omega)))))) ⟨by unfold fits; omega, by unfold fits; omega, by unfold fits; omega⟩ rfl (by omega) rfl
              first
                | exact bk_new_at _ _ _ _ (by simp)
                | exact ((bk_new_at _ _ _ _ (by simp)).far (by simp; omega) _).far (by simp; omega) _)

theorem rquote_any (al to si : Bool) (lim price fn fd tn td cn cd sn sd rn rd y n : Int) (w : World) :
    Calls Try.prog 11 #[.agg (decCells al to si lim price fn fd tn td cn cd sn sd rn rd y), .int .i64 n] w (Quoted w (quoteE al price fn fd tn td n) (quoteL al price fn fd tn td n)) := by
  by_cases h : n < 1 ∨ 12 < n ∨ price < 0 ∨ 1000000000 < price ∨ ratioB fn fd = false ∨ ratioB tn td = false
  · refine rquote_bad al to si lim price fn fd tn td cn cd sn sd rn rd y n w h (quoteE_bad ?_)
    rcases h with h | h | h | h | h | h
    · exact .inl h
    · exact .inr (.inl h)
    · exact .inr (.inr (.inl h))
    · exact .inr (.inr (.inr (.inl (by unfold validB; simp; omega))))
    · exact .inr (.inr (.inr (.inr (.inl h))))
    · exact .inr (.inr (.inr (.inr (.inr h))))
  · simp only [not_or, Bool.not_eq_false] at h
    obtain ⟨h1, h2, h3, h4, h5, h6⟩ := h
    cases al
    · have hE : quoteE false price fn fd tn td n = 15 := by
        unfold quoteE
        rw [if_pos (by rw [h5, h6]; simp; omega)]
        rfl
      rw [quoteL_err hE (by decide), hE]
      exact rquote_denied to si lim price fn fd tn td cn cd sn sd rn rd y n w (by omega) (by omega) (by omega) (by omega) h5 h6
    · exact rquote_ok to si lim price fn fd tn td cn cd sn sd rn rd y n w (by omega) (by omega) (by omega) (by omega) h5 h6
end Go.Proofs.Ytdacfopdalgkaaa
