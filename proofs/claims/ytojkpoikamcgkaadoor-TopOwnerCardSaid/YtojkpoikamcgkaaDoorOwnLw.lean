/- TopOwner: the law's walk. -/
import Derived.Test.YtojkpoikamcgkaaDoorOwnTj
import Derived.Test.YtojkpoikamcgkaaDoorPar
namespace Go.Proofs.YtojkpoikamcgkaaDoor
open Go.RowKit Go.Shelf
set_option linter.unusedVariables false
set_option linter.unusedSimpArgs false
attribute [local go_sem] ext_cell ext_frozen lt_ext ext_drew

theorem one_trT : ∀ (w : World) (B : Nat) (cs : List Value) (x : Tr), tTr.rd w B cs x → ∀ u ∈ cs, u.oneCell' = true := by
  rintro w B cs x ⟨c1, c2, rfl, ⟨rfl, _⟩, ⟨A, cap, rfl, _⟩⟩ u hu
  simp only [List.cons_append, List.nil_append, List.mem_cons, List.not_mem_nil, or_false] at hu
  rcases hu with rfl | rfl <;> rfl
set_option maxRecDepth 100000 in
set_option maxHeartbeats 4000000 in
theorem law_any (se sh pl sr : Int) (fi fs tk : ByteArray) (A AX : Option Addr) (ch : List Tr) (cap : Nat) (xs : List ByteArray) (cx : Nat) (w : World) (h : Elems tTr w w.heap.size A ch) (hx : Elems tStr w w.heap.size AX xs) (hcap : ch.length ≤ cap) (hmax : cap ≤ maxLen) (hcx : xs.length ≤ cx) (hmx : cx ≤ maxLen)
    (hfi : fi.size ≤ maxLen) (hfs : fs.size ≤ maxLen) (htk : tk.size ≤ maxLen) (s1 : -9223372036854775808 ≤ se) (s2 : se ≤ 9223372036854775807) (s3 : -9223372036854775808 ≤ sh) (s4 : sh ≤ 9223372036854775807) (s5 : -9223372036854775808 ≤ pl) (s6 : pl ≤ 9223372036854775807) (s7 : -9223372036854775808 ≤ sr) (s8 : sr ≤ 9223372036854775807) (ht : Tabs w) :
    Calls Tryd.prog 3 #[.agg #[.int .i64 se, .int .i64 sh, .int .i64 pl, .string fi, .slice A ch.length cap], .agg #[.string tk, .slice AX xs.length cx], .int .i64 sr, .string fs] w fun e w' => e = .returned (.bool true) ∧ Below w.heap.size w w' := by
  have hl1 : ch.length ≤ 9223372036854775807 := by unfold maxLen at hmax; omega
  have hl2 : xs.length ≤ 9223372036854775807 := by unfold maxLen at hmx; omega
  have hl3 : fi.size ≤ 9223372036854775807 := by unfold maxLen at hfi; omega
  have hl4 : fs.size ≤ 9223372036854775807 := by unfold maxLen at hfs; omega
  have hl5 : tk.size ≤ 9223372036854775807 := by unfold maxLen at htk; omega
  obtain ⟨W, hW⟩ : ∃ W, (w.alloc (.cells #[.int .i64 se, .int .i64 sh, .int .i64 pl, .string fi, .slice A ch.length cap] 24)).alloc (.cells #[.string tk, .slice AX xs.length cx] 27) = W := ⟨_, rfl⟩
  have b0 : Bk W w.heap.size #[.int .i64 se, .int .i64 sh, .int .i64 pl, .string fi, .slice A ch.length cap] 24 := by rw [← hW]; exact (Bk.new _ _ _).alloc _
  have b1 : Bk W (w.heap.size + 1) #[.string tk, .slice AX xs.length cx] 27 := by rw [← hW]; exact bk_next _ _ _ _
  have hwW : Below w.heap.size w W := by rw [← hW]; (repeat (first | with_reducible exact Below.refl _ _ | with_reducible assumption | with_reducible refine Below.alloc0 ?_ _ | with_reducible refine Below.ext0 ?_ _ | with_reducible refine Below.drew ?_ | with_reducible refine below_drewN ?_ _ | (with_reducible refine Below.setCell (hp := ?hp) ?_ _; case hp => (first | (simp; done) | (simp; omega)))))
  have hsW : W.heap.size = w.heap.size + 1 + 1 := by rw [← hW]; simp
  have k1 := h.keep hwW hwW.size
  have k2 := hx.keep hwW hwW.size
  have kt := ht.below hwW
  have ct := titles_any W kt
  have cf := fun (u : World) => fewT_any 4 se sh pl fi A ch cap (ext W u) W.heap.size (k1.keep (below_ext W u) (Nat.le_refl _)) (below_ext W u).size hl1 hl3 (by omega)
  have cg := fun (u : World) => fewS_any 60 AX xs cx (ext W u) W.heap.size (k2.keep (below_ext W u) (Nat.le_refl _)) (below_ext W u).size hl2 (by omega)
  have c0 := b0.cell 0
  have c1 := b0.cell 1
  have c2 := b0.cell 2
  have c3 := b0.cell 3
  have c4 := b0.cell 4
  have l0 := b0.lt
  have d0 := b1.cell 0
  have d1 := b1.cell 1
  have l1 := b1.lt
  cases g1 : fewT 4 fi ch with
  | false =>
   as_aux_lemma =>
    rw [g1] at cf
    have HC := Lib.hid (And.intro ct (And.intro cf (And.intro cg hwW)))
    clear ct cf cg b0 b1 hwW h hx k1 k2 kt ht hsW
    go_enter Tryd.func3, Tryd.ntmps3
    go_upto_region 1 with (fail)
    try rw [hW]
    clear hW
    go_wp2_with (first
          | (go_at_call 4; refine Calls.mono HC.out.1 ?_; rintro e w' ⟨rfl, hbb⟩; obtain ⟨u, rfl⟩ := ext_of hbb; clear hbb)
          | (go_at_call 5; refine Calls.mono (HC.out.2.1 _) ?_; rintro e w' ⟨rfl, hbb⟩; obtain ⟨u, rfl⟩ := ext_more hbb; clear hbb)
          | (go_at_call 6; refine Calls.mono (HC.out.2.2.1 _) ?_; rintro e w' ⟨rfl, rfl⟩))
    go_ret
    exact ⟨rfl, HC.out.2.2.2.trans ((below_ext W _).mono HC.out.2.2.2.size)⟩
  | true =>
    have gt := g1
    unfold fewT at gt
    simp only [Bool.and_eq_true, decide_eq_true_eq] at gt
    obtain ⟨⟨m1, m2⟩, m3⟩ := gt
    rw [g1] at cf
    clear g1
    by_cases g2 : (xs.length : Int) > 20
    · as_aux_lemma =>
      have HC := Lib.hid (And.intro ct (And.intro cf (And.intro cg hwW)))
      clear ct cf cg b0 b1 hwW h hx k1 k2 kt ht hsW
      go_enter Tryd.func3, Tryd.ntmps3
      go_upto_region 1 with (fail)
      try rw [hW]
      clear hW
      go_wp2_with (first
            | (go_at_call 4; refine Calls.mono HC.out.1 ?_; rintro e w' ⟨rfl, hbb⟩; obtain ⟨u, rfl⟩ := ext_of hbb; clear hbb)
            | (go_at_call 5; refine Calls.mono (HC.out.2.1 _) ?_; rintro e w' ⟨rfl, hbb⟩; obtain ⟨u, rfl⟩ := ext_more hbb; clear hbb)
            | (go_at_call 6; refine Calls.mono (HC.out.2.2.1 _) ?_; rintro e w' ⟨rfl, rfl⟩))
      go_ret
      exact ⟨rfl, HC.out.2.2.2.trans ((below_ext W _).mono HC.out.2.2.2.size)⟩
    · have g2' : xs.length ≤ 20 := by omega
      obtain ⟨r, hr⟩ : ∃ r, (fewS 60 xs && decide (xs.length ≤ 30)) = r := ⟨_, rfl⟩
      rw [hr] at cg
      cases r with
      | false =>
       as_aux_lemma =>
        clear hr
        have HC := Lib.hid (And.intro ct (And.intro cf (And.intro cg hwW)))
        clear ct cf cg b0 b1 hwW h hx k1 k2 kt ht hsW
        go_enter Tryd.func3, Tryd.ntmps3
        go_upto_region 1 with (fail)
        try rw [hW]
        clear hW
        go_wp2_with (first
              | (go_at_call 4; refine Calls.mono HC.out.1 ?_; rintro e w' ⟨rfl, hbb⟩; obtain ⟨u, rfl⟩ := ext_of hbb; clear hbb)
              | (go_at_call 5; refine Calls.mono (HC.out.2.1 _) ?_; rintro e w' ⟨rfl, hbb⟩; obtain ⟨u, rfl⟩ := ext_more hbb; clear hbb)
              | (go_at_call 6; refine Calls.mono (HC.out.2.2.1 _) ?_; rintro e w' ⟨rfl, rfl⟩))
        go_ret
        exact ⟨rfl, HC.out.2.2.2.trans ((below_ext W _).mono HC.out.2.2.2.size)⟩
      | true =>
        have m4 : fewS 60 xs = true := by
          rw [Bool.and_eq_true] at hr
          exact hr.1
        clear hr
        by_cases g4 : (tk.size : Int) > 60
        · as_aux_lemma =>
          clear m4
          have HC := Lib.hid (And.intro ct (And.intro cf (And.intro cg hwW)))
          clear ct cf cg b0 b1 hwW h hx k1 k2 kt ht hsW
          go_enter Tryd.func3, Tryd.ntmps3
          go_upto_region 1 with (fail)
          try rw [hW]
          clear hW
          go_wp2_with (first
                | (go_at_call 4; refine Calls.mono HC.out.1 ?_; rintro e w' ⟨rfl, hbb⟩; obtain ⟨u, rfl⟩ := ext_of hbb; clear hbb)
                | (go_at_call 5; refine Calls.mono (HC.out.2.1 _) ?_; rintro e w' ⟨rfl, hbb⟩; obtain ⟨u, rfl⟩ := ext_more hbb; clear hbb)
                | (go_at_call 6; refine Calls.mono (HC.out.2.2.1 _) ?_; rintro e w' ⟨rfl, rfl⟩))
          go_ret
          exact ⟨rfl, HC.out.2.2.2.trans ((below_ext W _).mono HC.out.2.2.2.size)⟩
        · by_cases g5 : (fs.size : Int) > 60
          · as_aux_lemma =>
            clear m4
            have HC := Lib.hid (And.intro ct (And.intro cf (And.intro cg hwW)))
            clear ct cf cg b0 b1 hwW h hx k1 k2 kt ht hsW
            go_enter Tryd.func3, Tryd.ntmps3
            go_upto_region 1 with (fail)
            try rw [hW]
            clear hW
            go_wp2_with (first
                  | (go_at_call 4; refine Calls.mono HC.out.1 ?_; rintro e w' ⟨rfl, hbb⟩; obtain ⟨u, rfl⟩ := ext_of hbb; clear hbb)
                  | (go_at_call 5; refine Calls.mono (HC.out.2.1 _) ?_; rintro e w' ⟨rfl, hbb⟩; obtain ⟨u, rfl⟩ := ext_more hbb; clear hbb)
                  | (go_at_call 6; refine Calls.mono (HC.out.2.2.1 _) ?_; rintro e w' ⟨rfl, rfl⟩))
            go_ret
            exact ⟨rfl, HC.out.2.2.2.trans ((below_ext W _).mono HC.out.2.2.2.size)⟩
          · have m5 : tk.size ≤ 60 := by omega
            have m6 : fs.size ≤ 60 := by omega
            have hsm : smallT fi (ch ++ [(tk, xs)]) := by
              refine ⟨by omega, fun x hx => ?_⟩
              rcases List.mem_append.1 hx with hx | hx
              · have q := List.all_eq_true.1 m3 x hx
                unfold fewX fewS at q
                simp only [Bool.and_eq_true, decide_eq_true_eq] at q
                exact ⟨by omega, by omega, fun s hs => by have := List.all_eq_true.1 q.2 s hs; have := of_decide_eq_true this; omega⟩
              · obtain rfl := List.mem_singleton.1 hx
                exact ⟨by show tk.size ≤ 1000; omega, by show xs.length ≤ 1000; omega, fun s hs => by have := List.all_eq_true.1 m4 s hs; have := of_decide_eq_true this; omega⟩
            have hlow := hwW
            have HC := Lib.hid (And.intro ct (And.intro cf (And.intro cg hwW)))
            have HM := Lib.hid (And.intro hsm (And.intro k1 (And.intro k2 (And.intro kt (And.intro b0 (And.intro b1 hsW))))))
            clear ct cf cg b0 b1 hwW h hx k1 k2 kt ht hsW m3 m4 hsm hlow
            go_enter Tryd.func3, Tryd.ntmps3
            go_upto_region 1 with (fail)
            try rw [hW]
            clear hW
            go_upto_region 5 with (first
      | (go_at_call 4; refine Calls.mono HC.out.1 ?_; rintro e w' ⟨rfl, hbb⟩; obtain ⟨u, rfl⟩ := ext_of hbb; clear hbb)
      | (go_at_call 5; refine Calls.mono (HC.out.2.1 _) ?_; rintro e w' ⟨rfl, hbb⟩; obtain ⟨u, rfl⟩ := ext_more hbb; clear hbb)
      | (go_at_call 6; refine Calls.mono (HC.out.2.2.1 _) ?_; rintro e w' ⟨rfl, rfl⟩))
            have hG10 : W.heap.size ≤ (ext W u).heap.size := (below_ext W u).size
            refine forget (fun X => Below W.heap.size W X ∧ Bk X (ext W u).heap.size #[.int .i64 se, .int .i64 sh, .int .i64 pl, .string fi, .slice A ch.length cap] 24) ⟨Below.alloc0 (below_ext W u) _, Bk.new _ _ _⟩ ?_
            generalize (ext W u).heap.size = G10 at *
            rintro X ⟨x1, x2⟩
            have hXW := x1.size
            have x3 := HM.out.2.2.2.2.1.below x1
            have x4 := HM.out.2.2.2.2.2.1.below x1
            have hsW := HM.out.2.2.2.2.2.2
            have lG := x2.lt
            clear c0 c1 c2 c3 c4 d0 d1 l0 l1
            have c4 := x3.cell 4
            have d0 := x4.cell 0
            have d1 := x4.cell 1
            have l0 := x3.lt
            have l1 := x4.lt
            have HX := Lib.hid (And.intro x1 (And.intro x2 (And.intro x3 x4)))
            clear x1 x2 x3 x4
            go_cut [] (fun X' => Below W.heap.size W X' ∧ ∃ A8 c8, Bk X' G10 #[.int .i64 se, .int .i64 sh, .int .i64 pl, .string fi, .slice A8 (ch.length + 1) c8] 24 ∧ Elems tTr X' X'.heap.size A8 (ch ++ [(tk, xs)]) ∧ ch.length + 1 ≤ c8 ∧ c8 ≤ maxLen)
            case first =>
              obtain ⟨css, f1, f2, f3, f4, f5⟩ := HM.out.2.1.flat
              have hf2 : ∀ X', Below X.heap.size X X' → ∀ i (h1 : i < ch.length) (h2 : i < css.length), tTr.rd X' W.heap.size css[i] ch[i] := fun X' h i h1 h2 => tTr.keep (HX.out.1.trans (h.mono hXW)) (Nat.le_refl _) (f2 i h1 h2)
              have hf5 : ∀ X', Below X.heap.size X X' → Lies X' A ch.length css.flatten := fun X' h => lies_of f5 (HX.out.1.trans (h.mono hXW))
              have hrd : ∀ X', Below X.heap.size X X' → tTr.rd X' W.heap.size [.string tk, .slice AX xs.length cx] (tk, xs) := fun X' h => ⟨[.string tk], [.slice AX xs.length cx], rfl, ⟨rfl, htk⟩, AX, cx, rfl, hcx, hmx, HM.out.2.2.1.keep (HX.out.1.trans (h.mono hXW)) (Nat.le_refl _)⟩
              have hmem0 : ∀ X', Below X.heap.size X X' → ∃ u, X' = ext X u := fun X' h => (let ⟨u, e⟩ := ext_of h; ⟨u, e.symm⟩)
              have HK := Lib.hid (And.intro f1 (And.intro hf2 hf5))
              have HRD := Lib.hid hrd
              have hmem := Lib.hid hmem0
              have HD := Lib.hid ((Below.refl X.heap.size X).drew)
              clear f1 f2 f3 f4 f5 hf2 hf5 hrd hmem0
              refine region_par (S := fun w' => ∃ u, w' = ext X u) [([1, 2, 4], [])] 0 3 5 [([], [6]), ([7], [])] 8 (by kernel_rfl) (by kernel_rfl) (hmem.out _ HD.out) ?_
              refine plan_take (fun K9 h9 => ?_)
              simp only [List.map_cons, List.map_nil, pickO, List.getD_cons_zero, List.getD_cons_succ]
              repeat (go_big_quiet_step (fail))
              refine wpQuiet_nil (h9 _ ?_)
              clear h9 K9
              refine plan_next (plan_end ?_)
              refine par_run (fun K1 K2 _ _ h1 h2 => ⟨?_, ?_⟩)
              · as_aux_lemma =>
                simp only [pickO, List.getD_cons_zero, List.getD_cons_succ]
                go_wp2_with fail
                refine h1 _ _ (hmem.out _ (Below.alloc0 HD.out _)) ⟨?_, ?_⟩
                · clear h1 h2 K1 K2
                  refine runO_go (fun K9 h9 => ?_)
                  simp only [pickO, List.getD_cons_zero, List.getD_cons_succ]
                  go_wp2_with (at_builtin; refine list_appendL (T := tTr) (base := X.heap.size) (B := W.heap.size) (qs := []) (v := .slice (some ⟨X.heap.size, 0, none⟩) 0 0) rfl _ _ _ rfl 40 Tryd.underlying22 (by kernel_rfl) (by decide) one_trT rfl ⟨[], rfl, fun i h => absurd h (by simp), own_start X.drew X.heap.size 27 tTr.n (Nat.le_refl _)⟩ A ch.length cap ch css rfl rfl HK.out.1 (HK.out.2.1 _ (Below.alloc0 HD.out _)) (HK.out.2.2 _ (Below.alloc0 HD.out _)) (by unfold maxLen; simp; omega) (by simp; omega) (by first | (simp; done) | (simp; omega)) hXW ?_; intro A7 c7 w7 hown7 hbel7 hg7 hd7; simp only [List.length_nil, Nat.zero_add, List.nil_append] at hown7)
                  refine h9 _ _ (hmem.out _ ((Below.alloc0 HD.out _).trans hbel7)) ?_
                  clear h9 K9

                  refine runO_go (fun K9 h9 => ?_)
                  simp only [pickO, List.getD_cons_zero, List.getD_cons_succ]

                  go_wp2_with fail
                  have hz7 := ((Below.alloc0 HD.out _).trans hbel7).size
                  obtain ⟨GX, hGX⟩ : ∃ G, w7.heap.size = G := ⟨_, rfl⟩
                  have HO := Lib.hid (And.intro (hown7.below (below_self w7 (.cells #[.string tk, .slice AX xs.length cx] 27)) (by omega)) (And.intro (show Bk (w7.alloc (.cells #[.string tk, .slice AX xs.length cx] 27)) GX #[.string tk, .slice AX xs.length cx] 27 from hGX ▸ Bk.new w7 _ _) (And.intro (Below.alloc0 ((Below.alloc0 HD.out _).trans hbel7) (.cells #[.string tk, .slice AX xs.length cx] 27)) trivial)))
                  rw [hGX]
                  refine h9 _ _ (hmem.out _ HO.out.2.2.1) ?_
                  clear h9 K9 hown7 hbel7 hg7 hd7

                  refine plan_take (fun K9 h9 => ?_)
                  simp only [List.map_nil]
                  refine wpQuiet_nil (h9 _ ?_)
                  clear h9 K9
                  refine plan_run (fun K9 h9 => ?_)
                  simp only [pickO, List.getD_cons_zero, List.getD_cons_succ]
                  go_wp2_with (at_builtin; refine list_appendL (T := tTr) (base := X.heap.size) (B := W.heap.size) (qs := ch) (v := .slice A7 ch.length c7) rfl _ _ _ rfl 40 Tryd.underlying22 (by kernel_rfl) (by decide) one_trT rfl HO.out.1 (some ⟨GX, 0, none⟩) 1 1 [(tk, xs)] [[.string tk, .slice AX xs.length cx]] rfl rfl rfl (fun i h1 h2 => by obtain rfl : i = 0 := (by simp at h1; omega); exact HRD.out _ HO.out.2.2.1) (lies_bk HO.out.2.1 1) (by unfold maxLen; omega) (by omega) (by have := HO.out.2.2.1.size; omega) hXW ?_; intro A8 c8 w8 hown8 hbel8 hg8 hd8)
                  have HO8 := Lib.hid (And.intro hown8 (HO.out.2.2.1.trans hbel8))
                  refine h9 _ _ (hmem.out _ HO8.out.2) ?_
                  clear h9 K9 hown8 hbel8 hg8 hd8
                  refine plan_next ?_
                  refine plan_take (fun K9 h9 => ?_)
                  simp only [List.map_cons, List.map_nil, pickO, List.getD_cons_zero, List.getD_cons_succ]
                  repeat (go_big_quiet_step (fail))
                  refine wpQuiet_nil (h9 _ ?_)
                  clear h9 K9
                  refine plan_next (plan_end ?_)
                  simp only [pickO, List.getD_cons_zero, List.getD_cons_succ]
                  have b8 := HX.out.2.1.below HO8.out.2
                  have e4 := b8.cell 4
                  have f4 := b8.free
                  have l8 := b8.lt
                  have Hb8 := Lib.hid b8
                  clear b8
                  go_wp2_with fail
                  go_meet
                  have hon : Only (fun g => g = G10) w8 (w8.setCell ⟨G10, 4, none⟩ (.slice A8 (ch.length + 1) c8)) := by (repeat (first | with_reducible exact Only.refl _ _ | with_reducible assumption | with_reducible refine Only.alloc ?_ _ | with_reducible refine Only.ext0 ?_ _ | with_reducible refine Only.drew ?_ | with_reducible refine Only.drewN ?_ _ | (with_reducible refine Only.set_ (hp := ?hp) ?_ _; case hp => (first | (left; rfl) | (left; left; rfl) | (right; simp; done) | (right; simp; omega) | (left; simp; done) | (left; simp [*]; done)))))
                  have z8 := HO8.out.2.size
                  have hl := HO8.out.1.only hon (fun g hg => by omega) (by omega) (fun g hg hs => by have := (HO8.out.1.lt g hg).1; omega)
                  obtain ⟨A9, c9, e9, h91, h92⟩ := hl.form
                  rw [List.length_append] at e9 h91
                  cases e9
                  have hb8 := Hb8.out.set_ 4 (.slice A8 (ch.length + 1) c8)
                  simp only [List.setIfInBounds_toArray, List.set_cons_zero, List.set_cons_succ] at hb8
                  refine ⟨(HX.out.1.trans (HO8.out.2.mono hXW)).trans (hon.to_below (B := W.heap.size) (fun g hg => by omega) (by omega)), A8, c8, hb8, hl.elems (by have := hon.size; omega) (Nat.le_refl _), h91, h92⟩
                · clear h1 h2 K1 K2
                  refine runO_go (fun K9 h9 => ?_)
                  simp only [pickO, List.getD_cons_zero, List.getD_cons_succ]

                  go_wp2_with fail
                  refine h9 _ _ (hmem.out _ (Below.alloc0 (Below.alloc0 HD.out _) _)) ?_
                  clear h9 K9

                  refine runO_go (fun K9 h9 => ?_)
                  simp only [pickO, List.getD_cons_zero, List.getD_cons_succ]
                  go_wp2_with (at_builtin; refine list_appendL (T := tTr) (base := X.heap.size) (B := W.heap.size) (qs := []) (v := .slice (some ⟨X.heap.size, 0, none⟩) 0 0) rfl _ _ _ rfl 40 Tryd.underlying22 (by kernel_rfl) (by decide) one_trT rfl ⟨[], rfl, fun i h => absurd h (by simp), own_alloc (own_start X.drew X.heap.size 27 tTr.n (Nat.le_refl _)) (.cells #[.string tk, .slice AX xs.length cx] 27)⟩ A ch.length cap ch css rfl rfl HK.out.1 (HK.out.2.1 _ (Below.alloc0 (Below.alloc0 HD.out _) _)) (HK.out.2.2 _ (Below.alloc0 (Below.alloc0 HD.out _) _)) (by unfold maxLen; simp; omega) (by simp; omega) (by first | (simp; done) | (simp; omega)) hXW ?_; intro A7 c7 w7 hown7 hbel7 hg7 hd7; simp only [List.length_nil, Nat.zero_add, List.nil_append] at hown7)
                  have hz7 := ((Below.alloc0 (Below.alloc0 HD.out (.cells #[] 27)) (.cells #[.string tk, .slice AX xs.length cx] 27)).trans hbel7).size
                  obtain ⟨GX, hGX⟩ : ∃ G, X.heap.size + 1 = G := ⟨_, rfl⟩
                  have HO := Lib.hid (And.intro hown7 (And.intro (show Bk w7 GX #[.string tk, .slice AX xs.length cx] 27 from hGX ▸ grown_bk hg7 (bk_next X.drew _ _ _) (by simp [Value.ownBlock])) (And.intro ((Below.alloc0 (Below.alloc0 HD.out (.cells #[] 27)) (.cells #[.string tk, .slice AX xs.length cx] 27)).trans hbel7) trivial)))
                  rw [hGX]
                  refine h9 _ _ (hmem.out _ HO.out.2.2.1) ?_
                  clear h9 K9 hown7 hbel7 hg7 hd7

                  refine plan_take (fun K9 h9 => ?_)
                  simp only [List.map_nil]
                  refine wpQuiet_nil (h9 _ ?_)
                  clear h9 K9
                  refine plan_run (fun K9 h9 => ?_)
                  simp only [pickO, List.getD_cons_zero, List.getD_cons_succ]
                  go_wp2_with (at_builtin; refine list_appendL (T := tTr) (base := X.heap.size) (B := W.heap.size) (qs := ch) (v := .slice A7 ch.length c7) rfl _ _ _ rfl 40 Tryd.underlying22 (by kernel_rfl) (by decide) one_trT rfl HO.out.1 (some ⟨GX, 0, none⟩) 1 1 [(tk, xs)] [[.string tk, .slice AX xs.length cx]] rfl rfl rfl (fun i h1 h2 => by obtain rfl : i = 0 := (by simp at h1; omega); exact HRD.out _ HO.out.2.2.1) (lies_bk HO.out.2.1 1) (by unfold maxLen; omega) (by omega) (by have := HO.out.2.2.1.size; omega) hXW ?_; intro A8 c8 w8 hown8 hbel8 hg8 hd8)
                  have HO8 := Lib.hid (And.intro hown8 (HO.out.2.2.1.trans hbel8))
                  refine h9 _ _ (hmem.out _ HO8.out.2) ?_
                  clear h9 K9 hown8 hbel8 hg8 hd8
                  refine plan_next ?_
                  refine plan_take (fun K9 h9 => ?_)
                  simp only [List.map_cons, List.map_nil, pickO, List.getD_cons_zero, List.getD_cons_succ]
                  repeat (go_big_quiet_step (fail))
                  refine wpQuiet_nil (h9 _ ?_)
                  clear h9 K9
                  refine plan_next (plan_end ?_)
                  simp only [pickO, List.getD_cons_zero, List.getD_cons_succ]
                  have b8 := HX.out.2.1.below HO8.out.2
                  have e4 := b8.cell 4
                  have f4 := b8.free
                  have l8 := b8.lt
                  have Hb8 := Lib.hid b8
                  clear b8
                  go_wp2_with fail
                  go_meet
                  have hon : Only (fun g => g = G10) w8 (w8.setCell ⟨G10, 4, none⟩ (.slice A8 (ch.length + 1) c8)) := by (repeat (first | with_reducible exact Only.refl _ _ | with_reducible assumption | with_reducible refine Only.alloc ?_ _ | with_reducible refine Only.ext0 ?_ _ | with_reducible refine Only.drew ?_ | with_reducible refine Only.drewN ?_ _ | (with_reducible refine Only.set_ (hp := ?hp) ?_ _; case hp => (first | (left; rfl) | (left; left; rfl) | (right; simp; done) | (right; simp; omega) | (left; simp; done) | (left; simp [*]; done)))))
                  have z8 := HO8.out.2.size
                  have hl := HO8.out.1.only hon (fun g hg => by omega) (by omega) (fun g hg hs => by have := (HO8.out.1.lt g hg).1; omega)
                  obtain ⟨A9, c9, e9, h91, h92⟩ := hl.form
                  rw [List.length_append] at e9 h91
                  cases e9
                  have hb8 := Hb8.out.set_ 4 (.slice A8 (ch.length + 1) c8)
                  simp only [List.setIfInBounds_toArray, List.set_cons_zero, List.set_cons_succ] at hb8
                  refine ⟨(HX.out.1.trans (HO8.out.2.mono hXW)).trans (hon.to_below (B := W.heap.size) (fun g hg => by omega) (by omega)), A8, c8, hb8, hl.elems (by have := hon.size; omega) (Nat.le_refl _), h91, h92⟩
              · as_aux_lemma =>
                simp only [pickO, List.getD_cons_zero, List.getD_cons_succ]
                go_wp2_with fail
                refine h2 _ _ (hmem.out _ (Below.alloc0 HD.out _)) ?_
                clear h1 h2 K1 K2

                refine runO_go (fun K9 h9 => ?_)
                simp only [pickO, List.getD_cons_zero, List.getD_cons_succ]

                go_wp2_with fail
                refine h9 _ _ (hmem.out _ (Below.alloc0 (Below.alloc0 HD.out _) _)) ?_
                clear h9 K9

                refine runO_go (fun K9 h9 => ?_)
                simp only [pickO, List.getD_cons_zero, List.getD_cons_succ]
                go_wp2_with (at_builtin; refine list_appendL (T := tTr) (base := X.heap.size) (B := W.heap.size) (qs := []) (v := .slice (some ⟨X.heap.size + 1, 0, none⟩) 0 0) rfl _ _ _ rfl 40 Tryd.underlying22 (by kernel_rfl) (by decide) one_trT rfl ⟨[], rfl, fun i h => absurd h (by simp), own_empty (bk_next X.drew _ _ _) (by simp)⟩ A ch.length cap ch css rfl rfl HK.out.1 (HK.out.2.1 _ (Below.alloc0 (Below.alloc0 HD.out _) _)) (HK.out.2.2 _ (Below.alloc0 (Below.alloc0 HD.out _) _)) (by unfold maxLen; simp; omega) (by simp; omega) (by first | (simp; done) | (simp; omega)) hXW ?_; intro A7 c7 w7 hown7 hbel7 hg7 hd7; simp only [List.length_nil, Nat.zero_add, List.nil_append] at hown7)
                have hz7 := ((Below.alloc0 (Below.alloc0 HD.out (.cells #[.string tk, .slice AX xs.length cx] 27)) (.cells #[] 27)).trans hbel7).size
                obtain ⟨GX, hGX⟩ : ∃ G, X.heap.size = G := ⟨_, rfl⟩
                have HO := Lib.hid (And.intro hown7 (And.intro (show Bk w7 GX #[.string tk, .slice AX xs.length cx] 27 from hGX ▸ grown_bk hg7 ((Bk.new X.drew _ _).alloc _) (by simp [Value.ownBlock])) (And.intro ((Below.alloc0 (Below.alloc0 HD.out (.cells #[.string tk, .slice AX xs.length cx] 27)) (.cells #[] 27)).trans hbel7) trivial)))
                rw [hGX]
                refine h9 _ _ (hmem.out _ HO.out.2.2.1) ?_
                clear h9 K9 hown7 hbel7 hg7 hd7

                refine plan_take (fun K9 h9 => ?_)
                simp only [List.map_nil]
                refine wpQuiet_nil (h9 _ ?_)
                clear h9 K9
                refine plan_run (fun K9 h9 => ?_)
                simp only [pickO, List.getD_cons_zero, List.getD_cons_succ]
                go_wp2_with (at_builtin; refine list_appendL (T := tTr) (base := X.heap.size) (B := W.heap.size) (qs := ch) (v := .slice A7 ch.length c7) rfl _ _ _ rfl 40 Tryd.underlying22 (by kernel_rfl) (by decide) one_trT rfl HO.out.1 (some ⟨GX, 0, none⟩) 1 1 [(tk, xs)] [[.string tk, .slice AX xs.length cx]] rfl rfl rfl (fun i h1 h2 => by obtain rfl : i = 0 := (by simp at h1; omega); exact HRD.out _ HO.out.2.2.1) (lies_bk HO.out.2.1 1) (by unfold maxLen; omega) (by omega) (by have := HO.out.2.2.1.size; omega) hXW ?_; intro A8 c8 w8 hown8 hbel8 hg8 hd8)
                have HO8 := Lib.hid (And.intro hown8 (HO.out.2.2.1.trans hbel8))
                refine h9 _ _ (hmem.out _ HO8.out.2) ?_
                clear h9 K9 hown8 hbel8 hg8 hd8
                refine plan_next ?_
                refine plan_take (fun K9 h9 => ?_)
                simp only [List.map_cons, List.map_nil, pickO, List.getD_cons_zero, List.getD_cons_succ]
                repeat (go_big_quiet_step (fail))
                refine wpQuiet_nil (h9 _ ?_)
                clear h9 K9
                refine plan_next (plan_end ?_)
                simp only [pickO, List.getD_cons_zero, List.getD_cons_succ]
                have b8 := HX.out.2.1.below HO8.out.2
                have e4 := b8.cell 4
                have f4 := b8.free
                have l8 := b8.lt
                have Hb8 := Lib.hid b8
                clear b8
                go_wp2_with fail
                go_meet
                have hon : Only (fun g => g = G10) w8 (w8.setCell ⟨G10, 4, none⟩ (.slice A8 (ch.length + 1) c8)) := by (repeat (first | with_reducible exact Only.refl _ _ | with_reducible assumption | with_reducible refine Only.alloc ?_ _ | with_reducible refine Only.ext0 ?_ _ | with_reducible refine Only.drew ?_ | with_reducible refine Only.drewN ?_ _ | (with_reducible refine Only.set_ (hp := ?hp) ?_ _; case hp => (first | (left; rfl) | (left; left; rfl) | (right; simp; done) | (right; simp; omega) | (left; simp; done) | (left; simp [*]; done)))))
                have z8 := HO8.out.2.size
                have hl := HO8.out.1.only hon (fun g hg => by omega) (by omega) (fun g hg hs => by have := (HO8.out.1.lt g hg).1; omega)
                obtain ⟨A9, c9, e9, h91, h92⟩ := hl.form
                rw [List.length_append] at e9 h91
                cases e9
                have hb8 := Hb8.out.set_ 4 (.slice A8 (ch.length + 1) c8)
                simp only [List.setIfInBounds_toArray, List.set_cons_zero, List.set_cons_succ] at hb8
                refine ⟨(HX.out.1.trans (HO8.out.2.mono hXW)).trans (hon.to_below (B := W.heap.size) (fun g hg => by omega) (by omega)), A8, c8, hb8, hl.elems (by have := hon.size; omega) (Nat.le_refl _), h91, h92⟩
            case rest =>
              obtain ⟨y1, A8, c8, y2, y3, y4, y5⟩ := hcut
              apply_assumption
              generalize wc = Y at *
              have hzY := y1.size
              have hn1 : (ch ++ [(tk, xs)]).length = ch.length + 1 := by simp
              have x3 := HM.out.2.2.2.2.1.below y1
              have x4 := HM.out.2.2.2.2.2.1.below y1
              have x5 := HM.out.2.1.keep y1 hzY
              have x6 := HM.out.2.2.1.keep y1 hzY
              have xt := HM.out.2.2.2.1.below y1
              have xw := HC.out.2.2.2.trans (y1.mono HC.out.2.2.2.size)
              have cvu := valid_any se sh pl fi A8 (ch ++ [(tk, xs)]) c8 Y Y.heap.size y3 (Nat.le_refl _) (by rw [hn1]; exact y4) y5 HM.out.1 s1 s2 s3 s4 s5 s6 xt
              obtain ⟨V, hV⟩ : ∃ V, validB se sh pl fi (ch ++ [(tk, xs)]) = V := ⟨_, rfl⟩
              rw [hn1, hV] at cvu
              clear c4 d0 d1 l0 l1 lG
              have e0 := y2.cell 0
              have e1 := y2.cell 1
              have e2 := y2.cell 2
              have e3 := y2.cell 3
              have e4 := y2.cell 4
              have lG := y2.lt
              have c0 := x3.cell 0
              have c1 := x3.cell 1
              have c2 := x3.cell 2
              have c3 := x3.cell 3
              have c4 := x3.cell 4
              have l0 := x3.lt
              have d0 := x4.cell 0
              have d1 := x4.cell 1
              have l1 := x4.lt
              cases V with
              | false =>
               as_aux_lemma =>
                have HV := Lib.hid (And.intro cvu xw)
                clear cvu xw hV x3 x4 x5 x6 xt y1 y2 y3
                go_wp2_with (go_at_call 7; refine Calls.mono HV.out.1 ?_; rintro e w' ⟨rfl, hbb⟩; obtain ⟨u, rfl⟩ := ext_of hbb; clear hbb)
                go_ret
                exact ⟨rfl, HV.out.2.trans ((below_ext Y _).mono HV.out.2.size)⟩
              | true =>
                have hV2 := hV
                rw [validB_append] at hV2
                simp only [Bool.and_eq_true] at hV2
                obtain ⟨⟨⟨p1, p2⟩, p3⟩, p4, p5⟩ := hV2
                have hsm2 : smallT fi ch := ⟨HM.out.1.1, fun x hx => HM.out.1.2 x (List.mem_append_left _ hx)⟩
                have qx := HM.out.1.2 (tk, xs) (by simp)
                obtain ⟨OW, hOW⟩ : ∃ OW, ownerL fi ch = OW := ⟨_, rfl⟩
                obtain ⟨MS, hMS⟩ : ∃ MS : ByteArray, (⟨(messageL se sh fi ch tk).toArray⟩ : ByteArray) = MS := ⟨_, rfl⟩
                have hMs : MS.size ≤ 9223372036854775807 := by rw [← hMS, Lib.size_mk]; unfold messageL listL; rw [sumL_len]; omega
                have hel := fun (u : World) => x5.keep (below_ext Y u) (Nat.le_refl _)
                have hex := fun (u : World) => x6.keep (below_ext Y u) (Nat.le_refl _)
                have hzz := fun (u : World) => (below_ext Y u).size
                have htt := fun (u : World) => xt.below (below_ext Y u)
                have cvt := fun (u : World) => valid_any se sh pl fi A ch cap (ext Y u) Y.heap.size (hel u) (hzz u) hcap hmax hsm2 s1 s2 s3 s4 s5 s6 (htt u)
                have cow := fun (u : World) => owner_any se sh pl fi A ch cap (ext Y u) Y.heap.size (hel u) (hzz u) (by omega)
                have cms := fun (u : World) => message_any tk se sh pl fi A ch cap (ext Y u) Y.heap.size (hel u) (hzz u) (by omega) hsm2.1 (fun x hx => (hsm2.2 x hx).1) qx.1 s1 s2 s3 s4 (htt u)
                have cvf := fun (u : World) => verify_any OW MS AX xs cx (ext Y u) Y.heap.size (hex u) (hzz u) qx.2.1 qx.2.2 hMs (htt u)
                have cou := fun (u : World) => owner_any se sh pl fi A8 (ch ++ [(tk, xs)]) c8 (ext Y u) Y.heap.size (y3.keep (below_ext Y u) (Nat.le_refl _)) (hzz u) (by omega)
                have hvf : verifyL OW.data.toList MS.data.toList (bytesL xs) = true := by rw [← hOW, ← hMS]; exact p5
                rw [p1] at cvt
                rw [hOW] at cow
                rw [hMS] at cms
                rw [hvf] at cvf
                rw [hn1, ownerL_append] at cou
                have HV := Lib.hid (And.intro cvu (And.intro cvt (And.intro cow (And.intro cms (And.intro cvf cou)))))
                have HY := Lib.hid (And.intro xw (And.intro x3 (And.intro x4 (And.intro y2 (And.intro x5 (And.intro x6 (And.intro y3 (And.intro xt (And.intro hV (And.intro hsm2 qx))))))))))
                clear cvu cvt cow cms cvf cou hvf hV p1 p2 p3 p4 p5 hsm2 qx hOW hMS hMs hel hex hzz htt xw x3 x4 x5 x6 xt y1 y2 y3 hn1
                go_upto_region 8 with (go_at_call 7; refine Calls.mono HV.out.1 ?_; rintro e w' ⟨rfl, hbb⟩; obtain ⟨u, rfl⟩ := ext_of hbb; clear hbb)
                refine region_planx Y [([0], [1]), ([2, 3, 4, 6, 7, 8, 10, 11], [5, 9, 12]), ([13, 14, 15, 16, 18, 19], [17]), ([20, 21], [])] (below_ext Y _) (by kernel_rfl) (by kernel_rfl) (fun u => ?_)
                refine plan_take (fun K9 h9 => ?_)
                simp only [List.map_cons, List.map_nil, pickO, List.getD_cons_zero, List.getD_cons_succ]
                repeat (go_big_quiet_step (fail))
                refine wpQuiet_nil (h9 _ ?_)
                clear h9 K9
                refine plan_run (fun K9 h9 => ?_)
                simp only [pickO, List.getD_cons_zero, List.getD_cons_succ]
                go_wp2_with (go_at_call 7; refine Calls.mono (HV.out.2.1 _) ?_; rintro e w' ⟨rfl, hbb⟩; obtain ⟨u, rfl⟩ := ext_more hbb; clear hbb)
                refine h9 _ _ mem_ext ?_
                clear h9 K9
                refine plan_next ?_
                refine plan_take (fun K9 h9 => ?_)
                simp only [List.map_cons, List.map_nil, pickO, List.getD_cons_zero, List.getD_cons_succ]
                repeat (go_big_quiet_step (fail))
                refine wpQuiet_nil (h9 _ ?_)
                clear h9 K9
                refine plan_run (fun K9 h9 => ?_)
                simp only [pickO, List.getD_cons_zero, List.getD_cons_succ]
                go_wp2_with (go_at_call 9; refine Calls.mono (HV.out.2.2.1 _) ?_; rintro e w' ⟨rfl, hbb⟩; obtain ⟨u, rfl⟩ := ext_more hbb; clear hbb)
                refine h9 _ _ mem_ext ?_
                clear h9 K9
                refine plan_run (fun K9 h9 => ?_)
                simp only [pickO, List.getD_cons_zero, List.getD_cons_succ]
                go_wp2_with (go_at_call 10; refine Calls.mono (HV.out.2.2.2.1 _) ?_; rintro e w' ⟨rfl, hbb⟩; obtain ⟨u, rfl⟩ := ext_more hbb; clear hbb)
                refine h9 _ _ mem_ext ?_
                clear h9 K9
                refine plan_run (fun K9 h9 => ?_)
                simp only [pickO, List.getD_cons_zero, List.getD_cons_succ]
                go_wp2_with (go_at_call 8; refine Calls.mono (HV.out.2.2.2.2.1 _) ?_; rintro e w' ⟨rfl, hbb⟩; obtain ⟨u, rfl⟩ := ext_more hbb; clear hbb)
                refine h9 _ _ mem_ext ?_
                clear h9 K9
                refine plan_next ?_
                refine plan_take (fun K9 h9 => ?_)
                simp only [List.map_cons, List.map_nil, pickO, List.getD_cons_zero, List.getD_cons_succ]
                repeat (go_big_quiet_step (fail))
                refine wpQuiet_nil (h9 _ ?_)
                clear h9 K9
                refine plan_run (fun K9 h9 => ?_)
                simp only [pickO, List.getD_cons_zero, List.getD_cons_succ]
                go_wp2_with (go_at_call 9; refine Calls.mono (HV.out.2.2.2.2.2 _) ?_; rintro e w' ⟨rfl, hbb⟩; obtain ⟨u, rfl⟩ := ext_more hbb; clear hbb)
                refine h9 _ _ mem_ext ?_
                clear h9 K9
                refine plan_next ?_
                refine plan_take (fun K9 h9 => ?_)
                simp only [List.map_cons, List.map_nil, pickO, List.getD_cons_zero, List.getD_cons_succ]
                repeat (go_big_quiet_step (fail))
                refine wpQuiet_nil (h9 _ ?_)
                clear h9 K9
                refine plan_next (plan_end ?_)
                go_upto_region 15 with (fail)
                have zE := (below_ext Y u).size
                have hb3 : Below Y.heap.size Y ((((ext Y u).alloc (.cells #[.int .i64 sr, .int .i64 sh, .int .i64 pl, .string fi, .slice A8 (ch.length + 1) c8] 24)).alloc (.cells #[.int .i64 se, .int .i64 sh, .int .i64 pl, .string fs, .slice A8 (ch.length + 1) c8] 24)).alloc (.cells #[.int .i64 sr, .int .i64 sh, .int .i64 pl, .string fi, .slice A8 (ch.length + 1) c8, .int .i64 se, .int .i64 sh, .int .i64 pl, .string fs, .slice A8 (ch.length + 1) c8] 24)) := Below.alloc0 (Below.alloc0 (Below.alloc0 (below_ext Y u) _) _) _
                have hgl : Bk ((((ext Y u).alloc (.cells #[.int .i64 sr, .int .i64 sh, .int .i64 pl, .string fi, .slice A8 (ch.length + 1) c8] 24)).alloc (.cells #[.int .i64 se, .int .i64 sh, .int .i64 pl, .string fs, .slice A8 (ch.length + 1) c8] 24)).alloc (.cells #[.int .i64 sr, .int .i64 sh, .int .i64 pl, .string fi, .slice A8 (ch.length + 1) c8, .int .i64 se, .int .i64 sh, .int .i64 pl, .string fs, .slice A8 (ch.length + 1) c8] 24)) ((ext Y u).heap.size + 1 + 1) #[.int .i64 sr, .int .i64 sh, .int .i64 pl, .string fi, .slice A8 (ch.length + 1) c8, .int .i64 se, .int .i64 sh, .int .i64 pl, .string fs, .slice A8 (ch.length + 1) c8] 24 := by
                  have q := Bk.new (((ext Y u).alloc (.cells #[.int .i64 sr, .int .i64 sh, .int .i64 pl, .string fi, .slice A8 (ch.length + 1) c8] 24)).alloc (.cells #[.int .i64 se, .int .i64 sh, .int .i64 pl, .string fs, .slice A8 (ch.length + 1) c8] 24)) #[.int .i64 sr, .int .i64 sh, .int .i64 pl, .string fi, .slice A8 (ch.length + 1) c8, .int .i64 se, .int .i64 sh, .int .i64 pl, .string fs, .slice A8 (ch.length + 1) c8] 24
                  simpa using q
                have hgL : Y.heap.size ≤ (ext Y u).heap.size + 1 + 1 := by omega
                refine forget (fun Z => Below Y.heap.size Y Z ∧ Bk Z ((ext Y u).heap.size + 1 + 1) #[.int .i64 sr, .int .i64 sh, .int .i64 pl, .string fi, .slice A8 (ch.length + 1) c8, .int .i64 se, .int .i64 sh, .int .i64 pl, .string fs, .slice A8 (ch.length + 1) c8] 24) ⟨hb3, hgl⟩ ?_
                clear hb3 hgl
                generalize (ext Y u).heap.size + 1 + 1 = GL at *
                rintro Z ⟨z1, z2⟩
                have HZ := Lib.hid (And.intro z1 z2)
                have hzZ := z1.size
                have hlL := z2.lt
                clear z1 z2 c0 c1 c2 c3 c4 d0 d1 e0 e1 e2 e3 e4 l0 l1 lG zE HV
                go_wp2_with fail
                go_loopw [14] (fun i wr => ∃ k : Nat, k ≤ 2 ∧ i = .int .i64 k ∧ Below Z.heap.size Z wr) (fun i _ => 2 - (intOf i).toNat)
                case atStart => exact ⟨0, by omega, rfl, Below.refl _ _⟩
                case round =>
                  obtain ⟨k, hk, rfl, hlow⟩ := hrel
                  generalize wr = wA at *
                  by_cases hlt : k < 2
                  · as_aux_lemma =>
                    have hYA : Below Y.heap.size Y wA := HZ.out.1.trans (hlow.mono hzZ)
                    have hzA := hlow.size
                    have hkl : (k : Int) < 2 := by omega
                    have hbL := HZ.out.2.below hlow
                    have hlA := hbL.lt
                    obtain ⟨sq, fq, q0, q1, q2, q3, q4, r1, r2, r3⟩ : ∃ sq fq, wA.cell? ⟨GL, k * 5, none⟩ = some (.int .i64 sq) ∧ wA.cell? ⟨GL, k * 5 + 1, none⟩ = some (.int .i64 sh) ∧ wA.cell? ⟨GL, k * 5 + 2, none⟩ = some (.int .i64 pl) ∧ wA.cell? ⟨GL, k * 5 + 3, none⟩ = some (.string fq) ∧ wA.cell? ⟨GL, k * 5 + 4, none⟩ = some (.slice A8 (ch.length + 1) c8) ∧
                        -9223372036854775808 ≤ sq ∧ sq ≤ 9223372036854775807 ∧ fq.size ≤ 1000 := by
                      rcases k with _ | _ | k
                      · exact ⟨sr, fi, hbL.cell 0, hbL.cell 1, hbL.cell 2, hbL.cell 3, hbL.cell 4, s7, s8, by omega⟩
                      · exact ⟨se, fs, hbL.cell 5, hbL.cell 6, hbL.cell 7, hbL.cell 8, hbL.cell 9, s1, s2, by omega⟩
                      · omega
                    have x3 := HY.out.2.1.below hYA
                    have x4 := HY.out.2.2.1.below hYA
                    have t4 := x3.cell 4
                    have t0 := x3.lt
                    have d0 := x4.cell 0
                    have d1 := x4.cell 1
                    have dl := x4.lt
                    have hn1 : (ch ++ [(tk, xs)]).length = ch.length + 1 := by simp
                    have hsq : smallT fq (ch ++ [(tk, xs)]) := ⟨r3, HM.out.1.2⟩
                    have y3 := HY.out.2.2.2.2.2.2.1.keep hYA hYA.size
                    have y4k : ∀ X, Below wA.heap.size wA X → Elems tTr X wA.heap.size A8 ch := fun X hX => by
                      have q := elems_take (y3.keep hX (Nat.le_refl _)) ch.length
                      rw [List.take_append_of_le_length (Nat.le_refl _), List.take_length] at q
                      exact q
                    have x6 := HY.out.2.2.2.2.2.1.keep hYA hYA.size
                    have xt := HY.out.2.2.2.2.2.2.2.1.below hYA
                    have hqx := HY.out.2.2.2.2.2.2.2.2.2.2
                    obtain ⟨OQ, hOQ⟩ : ∃ OQ, ownerL fq ch = OQ := ⟨_, rfl⟩
                    obtain ⟨MQ, hMQ⟩ : ∃ MS : ByteArray, (⟨(messageL sq sh fq ch tk).toArray⟩ : ByteArray) = MS := ⟨_, rfl⟩
                    have hMs : MQ.size ≤ 9223372036854775807 := by rw [← hMQ, Lib.size_mk]; unfold messageL listL; rw [sumL_len]; omega
                    obtain ⟨VQ, hVQ⟩ : ∃ V, validB sq sh pl fq (ch ++ [(tk, xs)]) = V := ⟨_, rfl⟩
                    obtain ⟨RQ, hRQ⟩ : ∃ R, verifyL OQ.data.toList MQ.data.toList (bytesL xs) = R := ⟨_, rfl⟩
                    have himp : VQ = true → RQ = true := fun e => by
                      rw [e, validB_append] at hVQ
                      simp only [Bool.and_eq_true] at hVQ
                      rw [← hRQ, ← hOQ, ← hMQ]
                      exact hVQ.2.2
                    have cct := fun (X : World) => cut_any ch.length sq sh pl fq A8 (ch ++ [(tk, xs)]) c8 X (by omega) (by omega) y5
                    have cvl := fun (X : World) (hX : Below wA.heap.size wA X) => valid_any sq sh pl fq A8 (ch ++ [(tk, xs)]) c8 X wA.heap.size (y3.keep hX (Nat.le_refl _)) hX.size (by omega) y5 hsq r1 r2 s3 s4 s5 s6 (xt.below hX)
                    have cow := fun (X : World) (hX : Below wA.heap.size wA X) => owner_any sq sh pl fq A8 ch c8 X wA.heap.size (y4k X hX) hX.size (by omega)
                    have cms := fun (X : World) (hX : Below wA.heap.size wA X) => message_any tk sq sh pl fq A8 ch c8 X wA.heap.size (y4k X hX) hX.size (by omega) r3 (fun x hx => (HY.out.2.2.2.2.2.2.2.2.2.1.2 x hx).1) hqx.1 r1 r2 s3 s4 (xt.below hX)
                    have cvf := fun (X : World) (hX : Below wA.heap.size wA X) => verify_any OQ MQ AX xs cx X wA.heap.size (x6.keep hX (Nat.le_refl _)) hX.size hqx.2.1 hqx.2.2 hMs (xt.below hX)
                    rw [hn1] at cct cvl
                    rw [hVQ] at cvl
                    rw [hOQ] at cow
                    rw [hMQ] at cms
                    rw [hRQ] at cvf
                    have HA := Lib.hid (And.intro cct (And.intro cvl (And.intro cow (And.intro cms (And.intro cvf hlow)))))
                    have HQ := Lib.hid (And.intro x3 (And.intro x4 hbL))
                    clear cct cvl cow cms cvf hlow x3 x4 hbL hn1 hsq y3 y4k x6 xt hqx hOQ hMQ hVQ hRQ hYA
                    go_upto_region 18 with (fail)
                    go_cut [15] (fun p X' => ∃ g, p = .pointer (some ⟨g, 0, none⟩) ∧ Bk X' g #[.int .i64 sq, .int .i64 sh, .int .i64 pl, .string fq, .slice A8 ch.length c8] 24 ∧ Below wA.heap.size wA X')
                    case first =>
                      have HD := Lib.hid ((Below.refl wA.heap.size wA).drew)
                      have hmem0 : ∀ X', Below wA.heap.size wA X' → ∃ u, X' = ext wA u := fun X' h => (let ⟨u, e⟩ := ext_of h; ⟨u, e.symm⟩)
                      have hmem := Lib.hid hmem0
                      clear hmem0
                      refine region_pair (S := fun w' => ∃ u, w' = ext wA u) [([0, 1, 2, 3, 4, 5, 6], [])] 7 8 [] 9 (by kernel_rfl) (by kernel_rfl) (hmem.out _ HD.out) ?_
                      refine plan_take (fun K9 h9 => ?_)
                      simp only [List.map_cons, List.map_nil, pickO, List.getD_cons_zero, List.getD_cons_succ]
                      repeat (go_big_quiet_step (fail))
                      refine wpQuiet_nil (h9 _ ?_)
                      clear h9 K9
                      refine plan_next (plan_end ⟨?_, ?_⟩)
                      · refine runO_go (fun K9 h9 => ?_)
                        simp only [pickO, List.getD_cons_zero, List.getD_cons_succ]
                        go_wp2_with (go_at_call 11; refine Calls.mono (HA.out.1 _) ?_; rintro e w5 ⟨rfl, hbb⟩)
                        have H5 := Lib.hid (Below.trans0 HD.out hbb)
                        refine h9 _ _ (hmem.out _ H5.out) ?_
                        clear h9 K9 hbb
                        refine runO_go (fun K9 h9 => ?_)
                        simp only [pickO, List.getD_cons_zero, List.getD_cons_succ]
                        go_wp2_with fail
                        refine h9 _ _ (hmem.out _ (Below.alloc0 H5.out _)) ?_
                        clear h9 K9
                        refine plan_end ?_
                        simp only [pickO, List.getD_cons_zero, List.getD_cons_succ]
                        go_wp2_with fail
                        go_meet
                        exact ⟨_, rfl, Bk.new _ _ _, Below.alloc0 H5.out _⟩
                      · refine runO_go (fun K9 h9 => ?_)
                        simp only [pickO, List.getD_cons_zero, List.getD_cons_succ]
                        go_wp2_with fail
                        refine h9 _ _ (hmem.out _ (Below.alloc0 HD.out _)) ?_
                        clear h9 K9
                        refine runO_go (fun K9 h9 => ?_)
                        simp only [pickO, List.getD_cons_zero, List.getD_cons_succ]
                        go_wp2_with (go_at_call 11; refine Calls.mono (HA.out.1 _) ?_; rintro e w5 ⟨rfl, hbb⟩)
                        have bz : Bk w5 wA.heap.size #[.int .i64 0, .int .i64 0, .int .i64 0, .string ⟨#[]⟩, .slice none 0 0] 24 := (Bk.new wA.drew _ _).below hbb
                        have H5 := Lib.hid (And.intro (Below.trans0 (Below.alloc0 HD.out _) hbb) bz)
                        refine h9 _ _ (hmem.out _ H5.out.1) ?_
                        clear h9 K9 hbb
                        refine plan_end ?_
                        simp only [pickO, List.getD_cons_zero, List.getD_cons_succ]
                        have e0 := bz.cell 0
                        have e1 := bz.cell 1
                        have e2 := bz.cell 2
                        have e3 := bz.cell 3
                        have e4 := bz.cell 4
                        have el := bz.lt
                        have ef := bz.free
                        clear bz
                        go_wp2_with fail
                        go_meet
                        have b1f := ((((H5.out.2.set_ 0 (.int .i64 sq)).set_ 1 (.int .i64 sh)).set_ 2 (.int .i64 pl)).set_ 3 (.string fq)).set_ 4 (.slice A8 ch.length c8)
                        simp only [List.setIfInBounds_toArray, List.set_cons_zero, List.set_cons_succ] at b1f
                        exact ⟨_, rfl, b1f, ((((H5.out.1.setCell (by simp) _).setCell (by simp) _).setCell (by simp) _).setCell (by simp) _).setCell (by simp) _⟩
                    case rest =>
                    obtain ⟨g, rfl, h1, h2⟩ := hcut
                    apply_assumption
                    generalize wc = X at *
                    have hBu := fun u => h2.trans ((below_ext X u).mono h2.size)
                    have zX := h2.size
                    have lL : GL < X.heap.size := by omega
                    have p0 := (h2.cell (p := ⟨GL, k * 5, none⟩) hlA).trans q0
                    have p1 := (h2.cell (p := ⟨GL, k * 5 + 1, none⟩) hlA).trans q1
                    have p2 := (h2.cell (p := ⟨GL, k * 5 + 2, none⟩) hlA).trans q2
                    have p3 := (h2.cell (p := ⟨GL, k * 5 + 3, none⟩) hlA).trans q3
                    have p4 := (h2.cell (p := ⟨GL, k * 5 + 4, none⟩) hlA).trans q4
                    have x4 := HQ.out.2.1.below h2
                    clear q0 q1 q2 q3 q4 t4 t0 d0 d1 dl
                    have d0 := x4.cell 0
                    have d1 := x4.cell 1
                    have dl := x4.lt
                    have e0 := h1.cell 0
                    have e1 := h1.cell 1
                    have e2 := h1.cell 2
                    have e3 := h1.cell 3
                    have e4 := h1.cell 4
                    have el := h1.lt
                    have HX := Lib.hid (And.intro h2 hBu)
                    clear h1 h2 hBu x4
                    cases VQ with
                    | true =>
                     as_aux_lemma =>
                      obtain rfl : RQ = true := himp rfl
                      clear himp
                      go_upto_region 19 with (fail)
                      refine region_planx X [([0, 1, 2, 3], [4]), ([5, 6, 8, 9, 10, 12, 13], [7, 11, 14]), ([15, 16], [])] (Below.refl _ _) (by kernel_rfl) (by kernel_rfl) (fun u => ?_)
                      refine plan_take (fun K9 h9 => ?_)
                      simp only [List.map_cons, List.map_nil, pickO, List.getD_cons_zero, List.getD_cons_succ]
                      repeat (go_big_quiet_step (fail))
                      refine wpQuiet_nil (h9 _ ?_)
                      clear h9 K9
                      refine plan_run (fun K9 h9 => ?_)
                      simp only [pickO, List.getD_cons_zero, List.getD_cons_succ]
                      go_wp2_with (go_at_call 7; refine Calls.mono (HA.out.2.1 _ (HX.out.2 _)) ?_; rintro e w' ⟨rfl, hbb⟩; obtain ⟨u, rfl⟩ := ext_more hbb; clear hbb)
                      refine h9 _ _ mem_ext ?_
                      clear h9 K9
                      refine plan_next ?_
                      refine plan_take (fun K9 h9 => ?_)
                      simp only [List.map_cons, List.map_nil, pickO, List.getD_cons_zero, List.getD_cons_succ]
                      repeat (go_big_quiet_step (fail))
                      refine wpQuiet_nil (h9 _ ?_)
                      clear h9 K9
                      refine plan_run (fun K9 h9 => ?_)
                      simp only [pickO, List.getD_cons_zero, List.getD_cons_succ]
                      go_wp2_with (go_at_call 9; refine Calls.mono (HA.out.2.2.1 _ (HX.out.2 _)) ?_; rintro e w' ⟨rfl, hbb⟩; obtain ⟨u, rfl⟩ := ext_more hbb; clear hbb)
                      refine h9 _ _ mem_ext ?_
                      clear h9 K9
                      refine plan_run (fun K9 h9 => ?_)
                      simp only [pickO, List.getD_cons_zero, List.getD_cons_succ]
                      go_wp2_with (go_at_call 10; refine Calls.mono (HA.out.2.2.2.1 _ (HX.out.2 _)) ?_; rintro e w' ⟨rfl, hbb⟩; obtain ⟨u, rfl⟩ := ext_more hbb; clear hbb)
                      refine h9 _ _ mem_ext ?_
                      clear h9 K9
                      refine plan_run (fun K9 h9 => ?_)
                      simp only [pickO, List.getD_cons_zero, List.getD_cons_succ]
                      go_wp2_with (go_at_call 8; refine Calls.mono (HA.out.2.2.2.2.1 _ (HX.out.2 _)) ?_; rintro e w' ⟨rfl, hbb⟩; obtain ⟨u, rfl⟩ := ext_more hbb; clear hbb)
                      refine h9 _ _ mem_ext ?_
                      clear h9 K9
                      refine plan_next ?_
                      refine plan_take (fun K9 h9 => ?_)
                      simp only [List.map_cons, List.map_nil, pickO, List.getD_cons_zero, List.getD_cons_succ]
                      repeat (go_big_quiet_step (fail))
                      refine wpQuiet_nil (h9 _ ?_)
                      clear h9 K9
                      refine plan_next (plan_end ?_)
                      go_wp2_with fail
                      go_roundw
                      case rel => exact ⟨k + 1, by omega, by go_num, HA.out.2.2.2.2.2.trans ((HX.out.2 _).mono hzA)⟩
                      case measure => simp [intOf]; omega
                    | false =>
                     as_aux_lemma =>
                      clear himp
                      go_upto_region 19 with (fail)
                      refine region_planx X [([0, 1, 2, 3], [4]), ([5, 6, 8, 9, 10, 12, 13], [7, 11, 14]), ([15, 16], [])] (Below.refl _ _) (by kernel_rfl) (by kernel_rfl) (fun u => ?_)
                      refine plan_take (fun K9 h9 => ?_)
                      simp only [List.map_cons, List.map_nil, pickO, List.getD_cons_zero, List.getD_cons_succ]
                      repeat (go_big_quiet_step (fail))
                      refine wpQuiet_nil (h9 _ ?_)
                      clear h9 K9
                      refine plan_run (fun K9 h9 => ?_)
                      simp only [pickO, List.getD_cons_zero, List.getD_cons_succ]
                      go_wp2_with (go_at_call 7; refine Calls.mono (HA.out.2.1 _ (HX.out.2 _)) ?_; rintro e w' ⟨rfl, hbb⟩; obtain ⟨u, rfl⟩ := ext_more hbb; clear hbb)
                      refine h9 _ _ mem_ext ?_
                      clear h9 K9
                      refine plan_next ?_
                      refine plan_take (fun K9 h9 => ?_)
                      simp only [List.map_cons, List.map_nil, pickO, List.getD_cons_zero, List.getD_cons_succ]
                      repeat (go_big_quiet_step (fail))
                      refine wpQuiet_nil (h9 _ ?_)
                      clear h9 K9
                      refine plan_run (fun K9 h9 => ?_)
                      simp only [pickO, List.getD_cons_zero, List.getD_cons_succ]
                      go_wp2_with fail
                      refine h9 _ _ mem_ext ?_
                      clear h9 K9
                      refine plan_run (fun K9 h9 => ?_)
                      simp only [pickO, List.getD_cons_zero, List.getD_cons_succ]
                      go_wp2_with fail
                      refine h9 _ _ mem_ext ?_
                      clear h9 K9
                      refine plan_run (fun K9 h9 => ?_)
                      simp only [pickO, List.getD_cons_zero, List.getD_cons_succ]
                      go_wp2_with fail
                      refine h9 _ _ mem_ext ?_
                      clear h9 K9
                      refine plan_next ?_
                      refine plan_take (fun K9 h9 => ?_)
                      simp only [List.map_cons, List.map_nil, pickO, List.getD_cons_zero, List.getD_cons_succ]
                      repeat (go_big_quiet_step (fail))
                      refine wpQuiet_nil (h9 _ ?_)
                      clear h9 K9
                      refine plan_next (plan_end ?_)
                      go_wp2_with fail
                      go_roundw
                      case rel => exact ⟨k + 1, by omega, by go_num, HA.out.2.2.2.2.2.trans ((HX.out.2 _).mono hzA)⟩
                      case measure => simp [intOf]; omega
                  · as_aux_lemma =>
                    obtain rfl : k = 2 := by omega
                    have HF := Lib.hid (HY.out.1.trans ((HZ.out.1.trans (hlow.mono hzZ)).mono HY.out.1.size))
                    clear hlow
                    go_wp2_with fail
                    go_ret
                    exact ⟨rfl, HF.out⟩
end Go.Proofs.YtojkpoikamcgkaaDoor
