/- Layer 30 (title): Pass, where it hands a title on. -/
import Derived.Test.YtojkpoikamcgkaaDoorOwnU
namespace Go.Proofs.YtojkpoikamcgkaaDoor
open Go.RowKit Go.Shelf
set_option linter.unusedVariables false
set_option linter.unusedSimpArgs false
attribute [local go_sem] ext_cell ext_frozen lt_ext ext_drew

/-- The chain with one more transfer. -/
def nextT (se sh : Int) (fi : ByteArray) (ch : List Tr) (key secret : ByteArray) : Tr := (key, (signL secret (messageL se sh fi ch key)).map mkB)
theorem results_cell2 {P : Program} {fn : Func} {a u : Tmp} {t : TypeId} {tmps : Array Value} {p : Addr} {v : Value} {w : World} (h : fn.results = #[.cell a t, .tmp u]) (hb : tmps.getD a undef = .pointer (some p)) (hl : (loadVar t p).run P w = .ok v w) :
    (results fn tmps).run P w = .ok (.tuple #[v, tmps.getD u undef]) w := by
  rw [results_cell_tmp h, hb]
  show (((loadVar t p).run P w).andThen fun v w₂ => Result.ok (Value.tuple #[v, tmps.getD u undef]) w₂) = _
  rw [hl]
  rfl
theorem sig_keep {lo : Nat} {X w' : World} {v : Value} {ch : List Tr} {G B b7 : Nat} {A7 : Option Addr} {c7 : Nat} {sigs : List ByteArray} (hv : OwnL (tTrG lo) 27 X G B v ch) (hs : OwnL tStr 9 X b7 0 (.slice A7 18 c7) sigs)
    (hg : X.grownBy w' v.ownBlock) : OwnL tStr 9 w' b7 0 (.slice A7 18 c7) sigs := by
  refine hs.only (S := fun g => v.ownBlock = some g) ⟨hg.os, hg.tape, hg.output, hg.size, fun k hk hn => hg.block k hk (fun e => hn e.symm)⟩ (fun _ _ => Nat.zero_le _) (Nat.zero_le _) (fun g hg1 hg2 => ?_)
  obtain ⟨css, _, _, hown⟩ := hs
  obtain ⟨css2, _, _, hown2⟩ := hv
  obtain ⟨C, hC⟩ := own_typedQ hown hg1
  obtain ⟨C2, hC2⟩ := own_typedQ hown2 hg2
  have : X.heap[g]? = some (.cells C 9 (0, 0)) := hC
  have e2 : X.heap[g]? = some (.cells C2 27 (0, 0)) := hC2
  rw [this] at e2
  cases e2
theorem next_rd {lo : Nat} {X : World} {b7 : Nat} {A7 : Option Addr} {c7 : Nat} {sigs : List ByteArray} {key : ByteArray} (hs : OwnL tStr 9 X b7 0 (.slice A7 18 c7) sigs) (h18 : sigs.length = 18) (hk : key.size ≤ maxLen) (hlo : lo ≤ b7) :
    (tTrG lo).rd X X.heap.size [.string key, .slice A7 18 c7] (key, sigs) := by
  obtain ⟨A, c, e, h3, h4⟩ := hs.form
  rw [h18] at e h3
  cases e
  refine ⟨[.string key], [.slice A7 18 c7], rfl, ⟨rfl, hk⟩, ⟨A7, c7, by rw [h18], by rw [h18]; exact h3, h4, hs.elems (Nat.zero_le _) (Nat.le_refl _)⟩, fun A n cap e b off fr eA => ?_⟩
  injection e with e1 _
  injection e1 with e1 _ _
  subst e1
  have := (hs.lt b (by rw [eA]; rfl)).1
  omega
set_option maxRecDepth 100000 in
set_option maxHeartbeats 4000000 in
theorem pass_any (lo : Nat) (key secret : ByteArray) (se sh pl : Int) (fi : ByteArray) (A : Option Addr) (ch : List Tr) (cap : Nat) (w : World) (B : Nat) (h : Elems (tTrG lo) w B A ch) (hlo : lo ≤ w.heap.size) (hB : B ≤ w.heap.size) (hcap : ch.length ≤ cap) (hmax : cap ≤ maxLen)
    (hs : smallT fi ch) (s1 : -9223372036854775808 ≤ se) (s2 : se ≤ 9223372036854775807) (s3 : -9223372036854775808 ≤ sh) (s4 : sh ≤ 9223372036854775807) (s5 : -9223372036854775808 ≤ pl) (s6 : pl ≤ 9223372036854775807)
    (hv : validB se sh pl fi ch = true) (hkey : isL key.data.toList = true) (hlen : ch.length < 50) (hfree : usedB fi ch key = false) (hsec : secret.size ≤ 1000) (hown : ownerL fi ch = mkB (publicL secret)) (ht : Tabs w) :
    Calls Tryd.prog 24 #[.agg #[.int .i64 se, .int .i64 sh, .int .i64 pl, .string fi, .slice A ch.length cap], .string key, .string secret] w fun e w' => ∃ A' c', e = .returned (.tuple #[.agg #[.int .i64 se, .int .i64 sh, .int .i64 pl, .string fi, .slice A' (ch.length + 1) c'], .int .i64 0]) ∧
      Elems (tTrG lo) w' w'.heap.size A' (ch ++ [nextT se sh fi ch key secret]) ∧ (∀ b off fr, A' = some ⟨b, off, fr⟩ → w.heap.size ≤ b) ∧ ch.length + 1 ≤ c' ∧ c' ≤ maxLen ∧ Below w.heap.size w w' := by
  have hk16 := isL_len hkey
  have hks : key.size ≤ 1000 := by have : key.size = key.data.toList.length := rfl; omega
  obtain ⟨OW, hOW⟩ : ∃ OW, ownerL fi ch = OW := ⟨_, rfl⟩
  obtain ⟨MS, hMS⟩ : ∃ MS, (⟨(messageL se sh fi ch key).toArray⟩ : ByteArray) = MS := ⟨_, rfl⟩
  have hMs : MS.size ≤ 9223372036854775807 := by rw [← hMS, Lib.size_mk]; unfold messageL listL; rw [sumL_len]; omega
  have cv := fun (X : World) (hx : Elems (tTrG lo) X w.heap.size A ch) (hz : w.heap.size ≤ X.heap.size) (htx : Tabs X) => valid_any se sh pl fi A ch cap X w.heap.size (elems_drop hx) hz hcap hmax hs s1 s2 s3 s4 s5 s6 htx
  have cu := fun (X : World) (hx : Elems (tTrG lo) X w.heap.size A ch) (hz : w.heap.size ≤ X.heap.size) => used_any key se sh pl fi A ch cap X w.heap.size (elems_drop hx) hz (by omega)
  have co := fun (X : World) (hx : Elems (tTrG lo) X w.heap.size A ch) (hz : w.heap.size ≤ X.heap.size) => owner_any se sh pl fi A ch cap X w.heap.size (elems_drop hx) hz (by omega)
  have cm := fun (X : World) (hx : Elems (tTrG lo) X w.heap.size A ch) (hz : w.heap.size ≤ X.heap.size) (htx : Tabs X) => message_any key se sh pl fi A ch cap X w.heap.size (elems_drop hx) hz (by omega) hs.1 (fun x hx => (hs.2 x hx).1) hks s1 s2 s3 s4 htx
  have cc := fun (X : World) (hx : Elems (tTrG lo) X w.heap.size A ch) (hz : w.heap.size ≤ X.heap.size) => clone_any lo A ch cap X w.heap.size hx hz (by omega)
  have cp := fun (X : World) (htx : Tabs X) => public_any secret hsec X htx
  have cs := fun (X : World) (htx : Tabs X) => sign_any secret MS hsec hMs X htx
  have ci := fun (X : World) => is_any key X (by omega)
  rw [hMS] at cm
  rw [hv] at cv
  rw [hkey] at ci
  rw [hfree] at cu
  rw [hOW] at co
  rw [← hown, hOW] at cp
  have HC := Lib.hid (And.intro cv (And.intro ci (And.intro cu (And.intro cp (And.intro co (And.intro cc (And.intro cm cs)))))))
  have HH := Lib.hid (And.intro (h.keep (Below.refl _ _) hB) (And.intro ht (And.intro hMS (And.intro hs hOW))))
  clear cv ci cu cp co cc cm cs h ht hs hown hv hfree hOW hMS hkey hk16
  have hinf : (Tryd.prog.info? 27).map (fun i => (i.size, i.bytes, i.zero.map fun z => z.cells.size)) = some ((tTrG lo).n, 40, some (tTrG lo).n) := show _ = some (2, 40, some 2) from by kernel_rfl
  go_enter Tryd.func24, Tryd.ntmps24
  go_upto_region 1 with (fail)
  obtain ⟨W, hW⟩ : ∃ W, (w.alloc (.cells #[.int .i64 se, .int .i64 sh, .int .i64 pl, .string fi, .slice A ch.length cap] 24)).alloc (.cells #[.int .i64 0, .int .i64 0, .int .i64 0, .string ⟨#[]⟩, .slice none 0 0] 24) = W := ⟨_, rfl⟩
  have b0 : Bk W w.heap.size #[.int .i64 se, .int .i64 sh, .int .i64 pl, .string fi, .slice A ch.length cap] 24 := by rw [← hW]; exact (Bk.new _ _ _).alloc _
  have b1 : Bk W (w.heap.size + 1) #[.int .i64 0, .int .i64 0, .int .i64 0, .string ⟨#[]⟩, .slice none 0 0] 24 := by rw [← hW]; exact bk_next _ _ _ _
  have hwW : Below w.heap.size w W := by rw [← hW]; (repeat (first | with_reducible exact Below.refl _ _ | with_reducible assumption | with_reducible refine Below.alloc0 ?_ _ | with_reducible refine Below.ext0 ?_ _ | with_reducible refine Below.drew ?_ | with_reducible refine below_drewN ?_ _ | (with_reducible refine Below.setCell (hp := ?hp) ?_ _; case hp => (first | (simp; done) | (simp; omega)))))
  have hsW : W.heap.size = w.heap.size + 1 + 1 := by rw [← hW]; simp
  rw [hW]
  clear hW
  have c0 := b0.cell 0
  have c1 := b0.cell 1
  have c2 := b0.cell 2
  have c3 := b0.cell 3
  have c4 := b0.cell 4
  have l0 := b0.lt
  have hn50 : ¬ (ch.length : Int) = 50 := by omega
  have HW := Lib.hid (And.intro hwW (And.intro hsW (And.intro b0 (And.intro b1 (And.intro (HH.out.1.keep hwW (Nat.le_refl _)) (HH.out.2.1.below hwW))))))
  have hzW : w.heap.size ≤ W.heap.size := hwW.size
  clear b0 b1 hwW hsW
  have HV : ∀ u, Elems (tTrG lo) (ext W u) w.heap.size A ch := fun u => HW.out.2.2.2.2.1.keep ((below_ext W u).mono hzW) (Nat.le_refl _)
  have HT : ∀ u, Tabs (ext W u) := fun u => HW.out.2.2.2.2.2.below (below_ext W u)
  have HZ : ∀ u, w.heap.size ≤ (ext W u).heap.size := fun u => Nat.le_trans hzW (below_ext W u).size
  have HR := Lib.hid (And.intro HV (And.intro HT HZ))
  clear HV HT HZ
  go_upto_region 7 with (first
    | (go_at_call 7; refine Calls.mono (HC.out.1 W HW.out.2.2.2.2.1 hzW HW.out.2.2.2.2.2) ?_; rintro e w' ⟨rfl, hbb⟩; obtain ⟨u, rfl⟩ := ext_of hbb; clear hbb)
    | (go_at_call 19; refine Calls.mono (HC.out.2.1 _) ?_; rintro e w' ⟨rfl, hbb⟩; obtain ⟨u, rfl⟩ := ext_more hbb; clear hbb)
    | (go_at_call 17; refine Calls.mono (HC.out.2.2.1 _ (HR.out.1 _) (HR.out.2.2 _)) ?_; rintro e w' ⟨rfl, hbb⟩; obtain ⟨u, rfl⟩ := ext_more hbb; clear hbb))
  refine region_planx W [([0, 2], [1, 3]), ([4, 5], [])] (below_ext W _) (by kernel_rfl) (by kernel_rfl) (fun u => ?_)
  refine plan_take (fun K9 h9 => ?_)
  simp only [List.map_cons, List.map_nil, pickO, List.getD_cons_zero, List.getD_cons_succ]
  repeat (go_big_quiet_step (fail))
  refine wpQuiet_nil (h9 _ ?_)
  clear h9 K9
  refine plan_run (fun K9 h9 => ?_)
  simp only [pickO, List.getD_cons_zero, List.getD_cons_succ]
  go_wp2_with (go_at_call 23; refine Calls.mono (HC.out.2.2.2.1 _ (HR.out.2.1 _)) ?_; rintro e w' ⟨rfl, hbb⟩; obtain ⟨u, rfl⟩ := ext_more hbb; clear hbb)
  refine h9 _ _ mem_ext ?_
  clear h9 K9
  refine plan_run (fun K9 h9 => ?_)
  simp only [pickO, List.getD_cons_zero, List.getD_cons_succ]
  go_wp2_with (go_at_call 9; refine Calls.mono (HC.out.2.2.2.2.1 _ (HR.out.1 _) (HR.out.2.2 _)) ?_; rintro e w' ⟨rfl, hbb⟩; obtain ⟨u, rfl⟩ := ext_more hbb; clear hbb)
  refine h9 _ _ mem_ext ?_
  clear h9 K9
  refine plan_next ?_
  refine plan_take (fun K9 h9 => ?_)
  simp only [List.map_cons, List.map_nil, pickO, List.getD_cons_zero, List.getD_cons_succ]
  repeat (go_big_quiet_step (fail))
  refine wpQuiet_nil (h9 _ ?_)
  clear h9 K9
  refine plan_next (plan_end ?_)
  go_upto_region 9 with (fail)
  have HD0 := Lib.hid (show Below W.heap.size W (ext W u).drew from (below_ext W u).drew)
  have hKK := fun (X : World) (h : Below W.heap.size W X) => And.intro (HW.out.2.2.2.2.1.keep (h.mono hzW) (Nat.le_refl _)) (And.intro (HW.out.2.2.2.2.2.below h) (Nat.le_trans hzW h.size))
  have hmem := fun (X : World) (h : Below W.heap.size W X) => show ∃ u, X = ext W u from (let ⟨u, e⟩ := ext_of h; ⟨u, e.symm⟩)
  have HX := Lib.hid (And.intro hKK hmem)
  clear hKK hmem
  refine region_planl (S := fun w' => ∃ u, w' = ext W u) [([0, 1, 3, 4, 5, 6], [2, 7, 8]), ([9], [10, 11]), ([12], [])] 13 (by kernel_rfl) (by kernel_rfl) (HX.out.2 _ HD0.out) ?_
  refine plan_take (fun K9 h9 => ?_)
  simp only [List.map_cons, List.map_nil, pickO, List.getD_cons_zero, List.getD_cons_succ]
  repeat (go_big_quiet_step (fail))
  refine wpQuiet_nil (h9 _ ?_)
  clear h9 K9
  refine plan_run (fun K9 h9 => ?_)
  simp only [pickO, List.getD_cons_zero, List.getD_cons_succ]
  go_wp2_with (go_at_call 47; refine Calls.mono (HC.out.2.2.2.2.2.1 _ (HX.out.1 _ HD0.out).1 (HX.out.1 _ HD0.out).2.2) ?_; rintro e w5 ⟨A5, c5, rfl, hown5, hbb⟩)
  have HZ := Lib.hid (And.intro (Below.trans0 HD0.out hbb) (And.intro hown5 (And.intro hbb.size HD0.out.size)))
  refine h9 _ _ (HX.out.2 _ HZ.out.1) ?_
  clear h9 K9 hbb hown5
  refine plan_run (fun K9 h9 => ?_)
  simp only [pickO, List.getD_cons_zero, List.getD_cons_succ]
  go_wp2_with (go_at_call 10; refine Calls.mono (HC.out.2.2.2.2.2.2.1 _ (HX.out.1 _ HZ.out.1).1 (HX.out.1 _ HZ.out.1).2.2 (HX.out.1 _ HZ.out.1).2.1) ?_; rintro e w6 ⟨rfl, hbb⟩)
  have hz56 := hbb.size
  have HZ2 := Lib.hid (And.intro (Below.trans0 HZ.out.1 hbb) (HZ.out.2.1.below hbb (Nat.le_trans (Nat.le_trans hzW HZ.out.2.2.2) HZ.out.2.2.1)))
  refine h9 _ _ (HX.out.2 _ HZ2.out.1) ?_
  clear h9 K9 hbb
  refine plan_run (fun K9 h9 => ?_)
  simp only [pickO, List.getD_cons_zero, List.getD_cons_succ]
  go_wp2_with (go_at_call 48; refine Calls.mono (HC.out.2.2.2.2.2.2.2 _ (HX.out.1 _ HZ2.out.1).2.1) ?_; rintro e w7 ⟨A7, c7, rfl, hown7, hbb⟩)
  have hz67 := hbb.size
  have HZ3 := Lib.hid (And.intro (Below.trans0 HZ2.out.1 hbb) (And.intro (HZ2.out.2.below hbb (Nat.le_trans (Nat.le_trans hzW HZ.out.2.2.2) (Nat.le_trans HZ.out.2.2.1 hz56))) hown7))
  refine h9 _ _ (HX.out.2 _ HZ3.out.1) ?_
  clear h9 K9 hbb hown7
  refine plan_next ?_
  refine plan_take (fun K9 h9 => ?_)
  simp only [List.map_cons, List.map_nil, pickO, List.getD_cons_zero, List.getD_cons_succ]
  repeat (go_big_quiet_step (fail))
  refine wpQuiet_nil (h9 _ ?_)
  clear h9 K9
  refine plan_run (fun K9 h9 => ?_)
  simp only [pickO, List.getD_cons_zero, List.getD_cons_succ]
  go_wp2_with fail
  have HZ4 := Lib.hid (And.intro (show Below W.heap.size W (w7.alloc (.cells #[.string key, .slice A7 18 c7] 27)) from Below.alloc0 HZ3.out.1 _) (And.intro (HZ3.out.2.1.below (below_self w7 (.cells #[.string key, .slice A7 18 c7] 27)) (Nat.le_trans (Nat.le_trans hzW HZ.out.2.2.2) (Nat.le_trans HZ.out.2.2.1 (Nat.le_trans hz56 hz67)))) (HZ3.out.2.2.below (below_self w7 (.cells #[.string key, .slice A7 18 c7] 27)) (Nat.zero_le _))))
  refine h9 _ _ (HX.out.2 _ HZ4.out.1) ?_
  clear h9 K9
  refine plan_run (fun K9 h9 => ?_)
  simp only [pickO, List.getD_cons_zero, List.getD_cons_succ]
  go_wp2_with (at_builtin; refine list_appendN (T := tTrG lo) (qs := ch) (v := .slice A5 ch.length c5) rfl _ _ _ rfl 40 Tryd.underlying22 hinf (show 0 < 2 by decide) rfl HZ4.out.2.1 (some ⟨w7.heap.size, 0, none⟩) 1 1 [[.string key, .slice A7 18 c7]] rfl rfl (fun c hc => by rw [List.mem_singleton.1 hc]; rfl) (fun c hc u hu => by rw [List.mem_singleton.1 hc] at hu; simp only [List.mem_cons, List.not_mem_nil, or_false] at hu; rcases hu with rfl | rfl <;> rfl) (lies_bk (C := #[.string key, .slice A7 18 c7]) (Bk.new w7 _ 27) 1) (by unfold maxLen; omega) (by omega) (by have := HZ.out.2.2.1; simp; omega) (Nat.le_trans hzW HZ.out.2.2.2) ?_; intro A8 c8 w8 hown8 hbel8 hg8)
  go_simp
  have HO8 := Lib.hid (And.intro (HZ4.out.1.trans (hbel8.mono HZ.out.2.2.2)) (And.intro hown8 (sig_keep HZ4.out.2.1 HZ4.out.2.2 hg8)))
  refine h9 _ _ (HX.out.2 _ HO8.out.1) ?_
  clear h9 K9 hown8 hbel8 hg8
  refine plan_next ?_
  refine plan_take (fun K9 h9 => ?_)
  simp only [List.map_cons, List.map_nil, pickO, List.getD_cons_zero, List.getD_cons_succ]
  repeat (go_big_quiet_step (fail))
  refine wpQuiet_nil (h9 _ ?_)
  clear h9 K9
  refine plan_next (plan_end ?_)
  simp only [pickO, List.getD_cons_zero, List.getD_cons_succ]
  have b08 := HW.out.2.2.1.below HO8.out.1
  have b18 := HW.out.2.2.2.1.below HO8.out.1
  have hz8 := HO8.out.1.size
  have hsW := HW.out.2.1
  have hl8 : w.heap.size < w8.heap.size := by omega
  have hl81 : w.heap.size + 1 < w8.heap.size := by omega
  have hf8 : ∀ i, w8.frozen? ⟨w.heap.size, i, none⟩ = false := b08.free
  have hf81 : ∀ i, w8.frozen? ⟨w.heap.size + 1, i, none⟩ = false := b18.free
  have d0 := b08.cell 0
  have d1 := b08.cell 1
  have d2 := b08.cell 2
  have d3 := b08.cell 3
  have d4 := b08.cell 4
  have e0 := b18.cell 0
  have e1 := b18.cell 1
  have e2 := b18.cell 2
  have e3 := b18.cell 3
  have e4 := b18.cell 4
  have HB8 := Lib.hid (And.intro b08 b18)
  clear b08 b18 hsW hz8
  go_wp2_with fail
  have hne : w.heap.size ≠ w.heap.size + 1 := by omega
  refine bodyPost_ret (v := .tuple #[.agg #[.int .i64 se, .int .i64 sh, .int .i64 pl, .string fi, .slice A8 (ch.length + 1) c8], .int .i64 0]) (results_cell2 Tryd.results24 (p := ⟨w.heap.size + 1, 0, none⟩) rfl (run_loadVar_at (b := w.heap.size + 1) (off := 0) (cs := #[.int .i64 se, .int .i64 sh, .int .i64 pl, .string fi, .slice A8 (ch.length + 1) c8]) (fun j u h => ?_) Tryd.underlying24 rfl (by kernel_rfl))) rfl ?_
  · have b1f := (((((HB8.out.2.far (p := ⟨w.heap.size, 4, none⟩) (Ne.symm hne) (.slice A8 (ch.length + 1) c8)).set_ 0 (.int .i64 se)).set_ 1 (.int .i64 sh)).set_ 2 (.int .i64 pl)).set_ 3 (.string fi)).set_ 4 (.slice A8 (ch.length + 1) c8)
    simp only [List.setIfInBounds_toArray, List.set_cons_zero, List.set_cons_succ] at b1f
    rw [Nat.zero_add, b1f.cell]
    exact h
  · obtain ⟨WF, hWF⟩ : ∃ WF, (((((w8.setCell ⟨w.heap.size, 4, none⟩ (.slice A8 (ch.length + 1) c8)).setCell ⟨w.heap.size + 1, 0, none⟩ (.int .i64 se)).setCell ⟨w.heap.size + 1, 1, none⟩ (.int .i64 sh)).setCell ⟨w.heap.size + 1, 2, none⟩ (.int .i64 pl)).setCell ⟨w.heap.size + 1, 3, none⟩ (.string fi)).setCell ⟨w.heap.size + 1, 4, none⟩ (.slice A8 (ch.length + 1) c8) = WF := ⟨_, rfl⟩
    have hon : Only (fun g => g = w.heap.size ∨ g = w.heap.size + 1) w8 WF := by rw [← hWF]; (repeat (first | with_reducible exact Only.refl _ _ | with_reducible assumption | with_reducible refine Only.alloc ?_ _ | with_reducible refine Only.ext0 ?_ _ | with_reducible refine Only.drew ?_ | with_reducible refine Only.drewN ?_ _ | (with_reducible refine Only.set_ (hp := ?hp) ?_ _; case hp => (first | (left; rfl) | (left; left; rfl) | (right; simp; done) | (right; simp; omega) | (left; simp; done) | (left; simp [*]; done)))))
    rw [hWF]
    have hz6 := HZ2.out.1.size
    have hsW := HW.out.2.1
    have hzG := HZ.out.2.2.2
    have hp := HO8.out.2.1.only hon (fun g hg => by omega) (by omega) (fun g hg hs => by have q2 : W.heap.size ≤ g := Nat.le_trans hzG (HO8.out.2.1.lt g hg).1; omega)
    have hq := HO8.out.2.2.only hon (fun g hg => Nat.zero_le _) (Nat.zero_le _) (fun g hg hs => by have := (HO8.out.2.2.lt g hg).1; omega)
    have hl := hp.to (B2 := WF.heap.size) (ns := [(key, (signL secret MS.data.toList).map mkB)]) rfl (fun i h1 h2 => by obtain rfl : i = 0 := (by simp at h1; omega); exact next_rd hq (by rw [List.length_map, signL_len]) (by unfold maxLen; omega) (by omega)) (by have := hon.size; omega)
    have hnx : nextT se sh fi ch key secret = (key, (signL secret MS.data.toList).map mkB) := by rw [← HH.out.2.2.1]; rfl
    rw [hnx]
    obtain ⟨A9, c9, e9, h91, h92⟩ := hl.form
    rw [List.length_append] at e9 h91
    cases e9
    refine ⟨A8, c8, rfl, hl.elems (Nat.le_refl _) (Nat.le_refl _), (fun b off fr e => by have q2 : W.heap.size ≤ b := Nat.le_trans hzG (hl.lt b (by rw [e]; rfl)).1; omega), h91, h92, ?_⟩
    exact (HW.out.1.trans (HO8.out.1.mono hzW)).trans (hon.to_below (B := w.heap.size) (fun g hg => by omega) (by omega))
end Go.Proofs.YtojkpoikamcgkaaDoor
