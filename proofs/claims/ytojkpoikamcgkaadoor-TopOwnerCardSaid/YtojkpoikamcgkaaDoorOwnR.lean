/- Layer 3 (sign): walk. Written by wip/own_walk.py. -/
import Derived.Test.YtojkpoikamcgkaaDoorOwnQ
import Derived.Test.YtojkpoikamcgkaaDoorOwn
namespace Go.Proofs.YtojkpoikamcgkaaDoor
open Go.RowKit Go.Shelf
set_option linter.unusedVariables false
set_option linter.unusedSimpArgs false
attribute [local go_sem] ext_cell ext_frozen lt_ext ext_drew
attribute [local go_sem] extB_cell lt_extB
attribute [local go_sem] Oper.semAt_some

theorem OwnL.rebase {α : Type} {T : Ty α} {e : TypeId} {X : World} {base b2 B : Nat} {v : Value} {qs : List α} (h : OwnL T e X base B v qs) (hb : b2 ≤ base) : OwnL T e X b2 B v qs := by
  obtain ⟨css, h1, h2, h3⟩ := h
  refine ⟨css, h1, h2, h3.1, h3.2.imp id ?_⟩
  rintro ⟨g, cap, cur, hv, hg, hr⟩
  exact ⟨g, cap, cur, hv, by omega, hr⟩
/-- A box that holds an own row: kept where a block that is no cells turns. -/
theorem holdsL_own {α β : Type} {T : Ty α} (B0 B : Nat) (t e : TypeId) (base : Nat) (f : β → List α) : OwnFrom B0 (fun (s : β) W => ∃ v, Bk W B #[v] t ∧ OwnL T e W base 0 v (f s)) := fun s X Y row hs hg hr => by
  obtain ⟨v, h1, h2⟩ := hs
  refine ⟨v, bk_own (β := Unit) _ _ _ () X Y row h1 hg (fun r e => (hr r e).2), ?_⟩
  refine h2.only (S := fun g => row = some g) ⟨hg.os, hg.tape, hg.output, hg.size, fun k hk hn => hg.block k hk (fun e => hn e.symm)⟩ (fun _ _ => Nat.zero_le _) (Nat.zero_le _) (fun g hv hrow => ?_)
  obtain ⟨css, _, _, hown⟩ := h2
  obtain ⟨C, hC⟩ := own_typedQ hown hv
  obtain ⟨_, o, ho, hc⟩ := hr g hrow
  have hC' : X.heap[g]? = some (.cells C e (0, 0)) := hC
  rw [hC'] at ho
  cases ho
  cases hc

set_option maxRecDepth 100000 in
set_option maxHeartbeats 4000000 in
theorem walk_public (secret : ByteArray) (hsec : secret.size ≤ 1000)  (w : World) (ht : Tabs w)  :
    Calls Tryd.prog 45 #[.string secret, .func (.func 46) #[] #[]] w fun e w' => ∃ A c, e = .returned (.slice A 18 c) ∧ OwnL tStr 9 w' w.heap.size 0 (.slice A 18 c) ((walkL secret (fun _ => 15)).map mkB) ∧ Below w.heap.size w w' := by
  have HT := Lib.hid (And.intro ht trivial)
  clear ht 
  refine (callsIn_wide (n := 6)).1 ?_
  refine callsIn_of_wp_marks Tryd.func45 rfl trivial ?_ rfl
  simp only [Tryd.ntmps45, List.size_toArray, List.length_cons, List.length_nil, Nat.reduceAdd, Nat.reduceSub, Array.replicate_succ, Array.replicate_zero, List.push_toArray, List.append_toArray, List.nil_append, List.cons_append]
  gi_wp2_with (first
    | (refine ⟨trivial, ?_⟩; gi_at_call 67; refine (callsIn_wide.2 (starts_any _ _)).mono ?_; rintro e w3 ⟨rfl, rfl⟩))
  obtain ⟨X0, hX0⟩ : ∃ X0, ((w.alloc (.cells #[.func (.func 46) #[] #[]] 79)).alloc (.cells #[.slice none 0 0] 25)).alloc (.cells #[.string secret] 9) = X0 := ⟨_, rfl⟩
  have bF : Bk X0 w.heap.size #[.func (.func 46) #[] #[]] 79 := by rw [← hX0]; exact ((Bk.new _ _ _).alloc _).alloc _
  have bO : Bk X0 (w.heap.size + 1) #[.slice none 0 0] 25 := by rw [← hX0]; exact (bk_next w _ _ _).alloc _
  have bS : Bk X0 (w.heap.size + 1 + 1) #[.string secret] 9 := by rw [← hX0]; have := Bk.new ((w.alloc (.cells #[.func (.func 46) #[] #[]] 79)).alloc (.cells #[.slice none 0 0] 25)) #[.string secret] 9; simpa using this
  have hwX : Below w.heap.size w X0 := by rw [← hX0]; (repeat (first | with_reducible exact Below.refl _ _ | with_reducible assumption | with_reducible refine Below.alloc0 ?_ _ | with_reducible refine Below.ext0 ?_ _ | with_reducible refine Below.drew ?_ | with_reducible refine below_drewN ?_ _ | (with_reducible refine Below.setCell (hp := ?hp) ?_ _; case hp => (first | (simp; done) | (simp; omega)))))
  have hsX : X0.heap.size = w.heap.size + 3 := by rw [← hX0]; simp
  rw [hX0]
  clear hX0
  refine wpIn_rangeFunc_ownH rfl (by omega) (gf := 81) (lb := #[.pointer (some ⟨w.heap.size + 1 + 1, 0, none⟩)]) rfl trivial (enters_of Tryd.func81 (by kernel_rfl) rfl)
    (starts_stops (6 - 1) (w.heap.size + 1 + 1) w.heap.size secret hsec X0 (by omega) bS (fun X hX => HT.out.1.below (hwX.trans hX))) KpB.t (KpB.b (by omega) (by omega)) (Below.refl _ _) (fun _ => rfl)
    (fun pre W => (Bk W w.heap.size #[.func (.func 46) #[] #[]] 79 ∧ (Below w.heap.size w W ∧ X0.heap.size ≤ W.heap.size)) ∧ ∃ v, Bk W (w.heap.size + 1) #[v] 25 ∧ OwnL tStr 9 W X0.heap.size 0 v (pre.map fun k => mkB (chainL ((fun _ => 15) k.1) (startL secret k.1))))
    (fun _ _ _ => False)
    (OwnFrom.and (OwnFrom.and (Own.from (bk_own _ _ _) _) (OwnFrom.and (ownFrom_below (Nat.le_refl _) (by omega)) (fun _ _ _ _ hs hg _ => Nat.le_trans hs hg.size))) (holdsL_own _ _ _ _ _ _))
    (fun _ _ _ _ _ hs _ _ => hs)
    ⟨⟨bF, hwX, Nat.le_refl _⟩, _, bO, OwnL.nil⟩
    (fun k a' _ => a' = { tmps := #[.string secret, .func (.func 46) #[] #[], undef, .pointer (some ⟨w.heap.size, 0, none⟩), .slice none 0 0, .pointer (some ⟨w.heap.size + 1, 0, none⟩), .int .i64 (k.1 : Nat), .string ⟨(startL secret k.1).toArray⟩, .string secret, .func (.func 81) #[] #[.pointer (some ⟨w.heap.size + 1 + 1, 0, none⟩)], .int .i64 (k.1 : Nat), .string ⟨(startL secret k.1).toArray⟩, undef, undef, undef, undef, undef, undef, undef, undef, undef], defers := [] })
    (fun _ _ => ownFrom_pure _ _)
    ?assign ?body ?done ?stop
  case assign =>
    rintro l pre k W K ⟨⟨i1, i2⟩, i3⟩ hK
    unfold startV
    gi_wp2
    exact hK _ _ (KeepsFrom.refl _ _) ⟨Below.refl _ _, fun _ => rfl⟩ ⟨⟨i1, i2⟩, i3⟩ rfl
  case body =>
    rintro l pre k a' W hl _ ⟨⟨i1, i2, hBX⟩, v, i3, i4⟩ rfl hlt
    obtain ⟨A7, c7, rfl, hc7, hmx⟩ := i4.form
    have hzW := i2.size
    have c3 := i1.cell 0
    have l3 := i1.lt
    have c5 := i3.cell 0
    have l5 := i3.lt
    have f5 := i3.free 0
    have g3 : w.heap.size < X0.heap.size := by omega
    have g5 : w.heap.size + 1 < X0.heap.size := by omega
    have hql : (pre.map fun k => mkB (chainL ((fun _ => 15) k.1) (startL secret k.1))).length ≤ 18 := by rw [List.length_map]; omega
    obtain ⟨qs, hqs⟩ : ∃ qs, (pre.map fun k => mkB (chainL ((fun _ => 15) k.1) (startL secret k.1))) = qs := ⟨_, rfl⟩
    rw [hqs] at c5 i3 i4 hql hc7
    have hnx : ((pre ++ [k]).map fun k => mkB (chainL ((fun _ => 15) k.1) (startL secret k.1))) = qs ++ [mkB (chainL ((fun _ => 15) k.1) (startL secret k.1))] := by rw [List.map_append, hqs]; rfl
    try simp only [hqs]
    obtain ⟨SL, hSL⟩ : ∃ S : ByteArray, (⟨(startL secret k.1).toArray⟩ : ByteArray) = S := ⟨_, rfl⟩
    obtain ⟨E, hE⟩ : ∃ E : ByteArray, mkB (chainL ((fun _ => 15) k.1) (startL secret k.1)) = E := ⟨_, rfl⟩
    have hSs : SL.size ≤ 1000 := by rw [← hSL, Lib.size_mk]; unfold startL listL; rw [sumL_len]; omega
    have hEs : E.size ≤ maxLen := by rw [← hE]; unfold mkB; rw [Lib.size_mk]; have : (chainL ((fun _ => 15) k.1) (startL secret k.1)).length ≤ 1000 := chainL_len (by unfold startL listL; rw [sumL_len]; omega); unfold maxLen; omega
    have hch := fun (X : World) (hx : Below W.heap.size W X) => chain_any SL ((fun _ => 15) k.1) X (by show 15 ≤ 1000; decide) (by omega) (HT.out.1.below (i2.trans (hx.mono hzW)))
    have hEE : (⟨(chainL ((fun _ => 15) k.1) SL.data.toList).toArray⟩ : ByteArray) = E := by rw [← hE, ← hSL]; rfl
    rw [hEE] at hch
    rw [hE] at hnx
    simp only [hSL]
    have hli := fun (X : World) (hx : Below W.heap.size W X) => public1_any k.1 X
    have HC := Lib.hid (And.intro hli (And.intro hch (And.intro i1 (And.intro i2 (And.intro i3 (And.intro i4 hnx))))))
    clear hli hch i1 i2 i3 i4 hnx hEE hE hSL hqs
    gi_wp2
    obtain ⟨BB, hBB⟩ : ∃ BB, X0.heap.size = BB := ⟨_, rfl⟩
    rw [hBB] at hBX g3 g5 hsX
    have HBB := Lib.hid (And.intro hBB hsX)
    clear hBB hsX
    have hS0 : Below BB W W.drew := (Below.refl _ _).drew
    have HS0 := Lib.hid hS0
    clear hS0
    refine region_planl_round (S := fun w' => ∃ u, w' = extB BB W u) [([0, 1, 2, 3], [4, 5, 6, 7])] 8 (by kernel_rfl) (by kernel_rfl) (by kernel_rfl) (mem_extB hBX HS0.out) ?_
    refine plan_take (fun K9 h9 => ?_)
    simp only [List.map_cons, List.map_nil, pickO, List.getD_cons_zero, List.getD_cons_succ]
    repeat (go_big_quiet_step (fail))
    refine wpQuiet_nil (h9 _ ?_)
    clear h9 K9
    refine plan_run (fun K9 h9 => ?_)
    simp only [pickO, List.getD_cons_zero, List.getD_cons_succ]
    go_wp2_with (go_at_call 46; refine Calls.mono (HC.out.1 _ (Below.refl _ _).drew) ?_; rintro e w5 ⟨rfl, hbb⟩)
    have HZ := Lib.hid (Below.trans0 (Below.refl _ _).drew hbb)
    refine h9 _ _ (mem_extB hBX (HZ.out.mono hBX)) ?_
    clear h9 K9 hbb
    refine plan_run (fun K9 h9 => ?_)
    simp only [pickO, List.getD_cons_zero, List.getD_cons_succ]
    go_wp2_with (go_at_call 20; refine Calls.mono (HC.out.2.1 _ HZ.out) ?_; rintro e w6 ⟨rfl, hbb⟩)
    have HZ2 := Lib.hid (Below.trans0 HZ.out hbb)
    refine h9 _ _ (mem_extB hBX (HZ2.out.mono hBX)) ?_
    clear h9 K9 hbb
    refine plan_run (fun K9 h9 => ?_)
    simp only [pickO, List.getD_cons_zero, List.getD_cons_succ]
    go_wp2_with fail
    have HZ3 := Lib.hid (show Below W.heap.size W (w6.alloc (.cells #[.string E] 9)) from Below.alloc0 HZ2.out _)
    refine h9 _ _ (mem_extB hBX (HZ3.out.mono hBX)) ?_
    clear h9 K9
    refine plan_run (fun K9 h9 => ?_)
    simp only [pickO, List.getD_cons_zero, List.getD_cons_succ]
    have hz3 := HZ3.out.size
    go_wp2_with (at_builtin; refine list_appendL (T := tStr) (base := BB) (B := 0) (qs := qs) (v := .slice A7 qs.length c7) rfl _ _ _ rfl 16 Tryd.underlying25 (by kernel_rfl) (by decide) one_strO rfl ((by have q := HC.out.2.2.2.2.2.1; rw [HBB.out.1] at q; exact q : OwnL tStr 9 W BB 0 (.slice A7 qs.length c7) qs).below HZ3.out (by omega)) (some ⟨w6.heap.size, 0, none⟩) 1 1 [E] [[.string E]] rfl rfl rfl (fun i a1 a2 => by obtain rfl : i = 0 := (by simp at a1; omega); exact ⟨rfl, hEs⟩) (lies_bk (C := #[.string E]) (Bk.new w6 _ 9) 1) (by unfold maxLen; omega) (by omega) (by omega) (by omega) ?_; intro A8 c8 w8 hown8 hbel8 hg8 hd8)
    have HO8 := Lib.hid (And.intro hown8 (And.intro ((HZ3.out.mono hBX).trans hbel8) hg8))
    refine h9 _ _ (mem_extB hBX HO8.out.2.1) ?_
    clear h9 K9 hown8 hbel8 hg8 hd8
    refine plan_next (plan_end ?_)
    simp only [pickO, List.getD_cons_zero, List.getD_cons_succ]
    have b58 := HC.out.2.2.2.2.1.below' HO8.out.2.1 (by omega)
    have c58 := b58.cell 0
    have l58 := b58.lt
    have f58 := b58.free 0
    go_wp2_with fail
    have hz8 := HO8.out.2.1.size
    have hcells : ∀ (j : Nat) (o : Obj), (Value.slice A7 qs.length c7).ownBlock = some j → (w6.alloc (.cells #[.string E] 9)).heap[j]? = some o → o.isCells = true := fun j o hj ho => by
      obtain ⟨css, _, _, hown⟩ := HC.out.2.2.2.2.2.1
      obtain ⟨C, hC⟩ := own_typedQ hown hj
      have hC' : (w6.alloc (.cells #[.string E] 9)).heap[j]? = some (.cells C 9 (0, 0)) := (HZ3.out.block j hC.lt).trans hC
      rw [hC'] at ho
      cases ho
      rfl
    have hne : w.heap.size + 1 + 1 < BB := by have := HBB.out.2; omega
    refine ⟨((keepsFrom_below HZ3.out).trans ((KeepsOthers.of_grownBy HO8.out.2.2 hcells).from _)).trans ((KeepsOthers.setCell _ _ _).from _), ⟨(HO8.out.2.1.mono (by omega)).setCell (by simp) _, fun hb => ?_⟩, ⟨(HC.out.2.2.1.below' HO8.out.2.1 (by omega)).far (by show w.heap.size ≠ w.heap.size + 1; omega) _, (HC.out.2.2.2.1.trans (HO8.out.2.1.mono (by omega))).setCell (by simp) _, ?_⟩, _, b58.set_ 0 _, ?_⟩
    · exact ((Only.refl (fun g => g = w.heap.size + 1) w8).set_ (p := ⟨w.heap.size + 1, 0, none⟩) (.inl rfl) _).block _ (by omega) (by omega) |>.trans (HO8.out.2.1.block _ hne)
    · have : X0.heap.size ≤ w8.heap.size := by rw [HBB.out.1]; omega
      simpa using this
    · rw [HC.out.2.2.2.2.2.2, HBB.out.1]
      refine HO8.out.1.only (S := fun g => g = w.heap.size + 1) ((Only.refl (fun g => g = w.heap.size + 1) w8).set_ (p := ⟨w.heap.size + 1, 0, none⟩) (.inl rfl) _) (fun _ _ => Nat.zero_le _) (Nat.zero_le _) (fun g hg hs => ?_)
      have := HO8.out.1.lt g hg
      omega
  case done =>
    rintro D ys W hD hS ⟨⟨i1, i2, hBX⟩, v, i3, i4⟩ hK
    obtain ⟨A7, c7, rfl, hc7, hmx⟩ := i4.form
    have hlen : ys.length = 18 := by have := congrArg List.length hS; simpa using this
    have hw : (ys.map fun k => mkB (chainL ((fun _ => 15) k.1) (startL secret k.1))) = (walkL secret (fun _ => 15)).map mkB := by
      unfold walkL
      rw [← hS, List.map_map, List.map_map]
      rfl
    rw [hw] at i3 i4
    have hl18 : ((walkL secret (fun _ => 15)).map mkB).length = 18 := by rw [List.length_map, walkL_len]
    rw [hl18] at i3 i4
    have c5 := i3.cell 0
    have l5 := i3.lt
    have HD := Lib.hid (And.intro i4 i2)
    clear i1 i2 i3 i4 hw hl18
    gi_wp2
    refine ⟨by simp, .inl ⟨_, _, rfl, run_takeDeferred hK, ?_⟩⟩
    refine ⟨_, results_tmp Tryd.results45 _ _ _, A7, c7, rfl, ?_, HD.out.2.trans (belowK_b (w := w) (Nat.le_refl _) W D _ _ (by omega) hK rfl rfl)⟩
    have ho : OwnL tStr 9 (W.putObj D (.deferred none)) X0.heap.size 0 (.slice A7 18 c7) ((walkL secret (fun _ => 15)).map mkB) := by
      refine HD.out.1.only (S := fun g => g = D) ⟨(grownBy_putObj' W D _).os, (grownBy_putObj' W D _).tape, (grownBy_putObj' W D _).output, (grownBy_putObj' W D _).size, fun k hk hn => (grownBy_putObj' W D (.deferred none)).block k hk (fun e => hn (by cases e; rfl))⟩ (fun _ _ => Nat.zero_le _) (Nat.zero_le _) (fun g hg hs => ?_)
      obtain ⟨css, _, _, hown⟩ := HD.out.1
      obtain ⟨C, hC⟩ := own_typedQ hown hg
      have hC' : W.heap[g]? = some (.cells C 9 (0, 0)) := hC
      rw [hs, hK] at hC'
      cases hC'
    exact ho.rebase (by omega)
  case stop =>
    rintro D c pre W hD _ h
    exact h.elim
set_option maxRecDepth 100000 in
set_option maxHeartbeats 4000000 in
theorem walk_sign (secret : ByteArray) (hsec : secret.size ≤ 1000) (db : Nat) (ds : List Nat) (d : Nat → Nat) (hlen : ds.length = 18) (hd : ∀ i, i < 18 → ds[i]? = some (d i)) (hle : ∀ i, d i ≤ 15) (w : World) (ht : Tabs w) (hb : Bk w db (digV ds) 44) :
    Calls Tryd.prog 45 #[.string secret, .func (.func 68) #[] #[.pointer (some ⟨db, 0, none⟩)]] w fun e w' => ∃ A c, e = .returned (.slice A 18 c) ∧ OwnL tStr 9 w' w.heap.size 0 (.slice A 18 c) ((walkL secret d).map mkB) ∧ Below w.heap.size w w' := by
  have HT := Lib.hid (And.intro ht (And.intro hb (And.intro hlen hd)))
  clear ht hb hlen hd
  refine (callsIn_wide (n := 6)).1 ?_
  refine callsIn_of_wp_marks Tryd.func45 rfl trivial ?_ rfl
  simp only [Tryd.ntmps45, List.size_toArray, List.length_cons, List.length_nil, Nat.reduceAdd, Nat.reduceSub, Array.replicate_succ, Array.replicate_zero, List.push_toArray, List.append_toArray, List.nil_append, List.cons_append]
  gi_wp2_with (first
    | (refine ⟨trivial, ?_⟩; gi_at_call 67; refine (callsIn_wide.2 (starts_any _ _)).mono ?_; rintro e w3 ⟨rfl, rfl⟩))
  obtain ⟨X0, hX0⟩ : ∃ X0, ((w.alloc (.cells #[.func (.func 68) #[] #[.pointer (some ⟨db, 0, none⟩)]] 79)).alloc (.cells #[.slice none 0 0] 25)).alloc (.cells #[.string secret] 9) = X0 := ⟨_, rfl⟩
  have bF : Bk X0 w.heap.size #[.func (.func 68) #[] #[.pointer (some ⟨db, 0, none⟩)]] 79 := by rw [← hX0]; exact ((Bk.new _ _ _).alloc _).alloc _
  have bO : Bk X0 (w.heap.size + 1) #[.slice none 0 0] 25 := by rw [← hX0]; exact (bk_next w _ _ _).alloc _
  have bS : Bk X0 (w.heap.size + 1 + 1) #[.string secret] 9 := by rw [← hX0]; have := Bk.new ((w.alloc (.cells #[.func (.func 68) #[] #[.pointer (some ⟨db, 0, none⟩)]] 79)).alloc (.cells #[.slice none 0 0] 25)) #[.string secret] 9; simpa using this
  have hwX : Below w.heap.size w X0 := by rw [← hX0]; (repeat (first | with_reducible exact Below.refl _ _ | with_reducible assumption | with_reducible refine Below.alloc0 ?_ _ | with_reducible refine Below.ext0 ?_ _ | with_reducible refine Below.drew ?_ | with_reducible refine below_drewN ?_ _ | (with_reducible refine Below.setCell (hp := ?hp) ?_ _; case hp => (first | (simp; done) | (simp; omega)))))
  have hsX : X0.heap.size = w.heap.size + 3 := by rw [← hX0]; simp
  rw [hX0]
  clear hX0
  refine wpIn_rangeFunc_ownH rfl (by omega) (gf := 81) (lb := #[.pointer (some ⟨w.heap.size + 1 + 1, 0, none⟩)]) rfl trivial (enters_of Tryd.func81 (by kernel_rfl) rfl)
    (starts_stops (6 - 1) (w.heap.size + 1 + 1) w.heap.size secret hsec X0 (by omega) bS (fun X hX => HT.out.1.below (hwX.trans hX))) KpB.t (KpB.b (by omega) (by omega)) (Below.refl _ _) (fun _ => rfl)
    (fun pre W => (Bk W w.heap.size #[.func (.func 68) #[] #[.pointer (some ⟨db, 0, none⟩)]] 79 ∧ (Below w.heap.size w W ∧ X0.heap.size ≤ W.heap.size)) ∧ ∃ v, Bk W (w.heap.size + 1) #[v] 25 ∧ OwnL tStr 9 W X0.heap.size 0 v (pre.map fun k => mkB (chainL (d k.1) (startL secret k.1))))
    (fun _ _ _ => False)
    (OwnFrom.and (OwnFrom.and (Own.from (bk_own _ _ _) _) (OwnFrom.and (ownFrom_below (Nat.le_refl _) (by omega)) (fun _ _ _ _ hs hg _ => Nat.le_trans hs hg.size))) (holdsL_own _ _ _ _ _ _))
    (fun _ _ _ _ _ hs _ _ => hs)
    ⟨⟨bF, hwX, Nat.le_refl _⟩, _, bO, OwnL.nil⟩
    (fun k a' _ => a' = { tmps := #[.string secret, .func (.func 68) #[] #[.pointer (some ⟨db, 0, none⟩)], undef, .pointer (some ⟨w.heap.size, 0, none⟩), .slice none 0 0, .pointer (some ⟨w.heap.size + 1, 0, none⟩), .int .i64 (k.1 : Nat), .string ⟨(startL secret k.1).toArray⟩, .string secret, .func (.func 81) #[] #[.pointer (some ⟨w.heap.size + 1 + 1, 0, none⟩)], .int .i64 (k.1 : Nat), .string ⟨(startL secret k.1).toArray⟩, undef, undef, undef, undef, undef, undef, undef, undef, undef], defers := [] })
    (fun _ _ => ownFrom_pure _ _)
    ?assign ?body ?done ?stop
  case assign =>
    rintro l pre k W K ⟨⟨i1, i2⟩, i3⟩ hK
    unfold startV
    gi_wp2
    exact hK _ _ (KeepsFrom.refl _ _) ⟨Below.refl _ _, fun _ => rfl⟩ ⟨⟨i1, i2⟩, i3⟩ rfl
  case body =>
    rintro l pre k a' W hl _ ⟨⟨i1, i2, hBX⟩, v, i3, i4⟩ rfl hlt
    obtain ⟨A7, c7, rfl, hc7, hmx⟩ := i4.form
    have hzW := i2.size
    have c3 := i1.cell 0
    have l3 := i1.lt
    have c5 := i3.cell 0
    have l5 := i3.lt
    have f5 := i3.free 0
    have g3 : w.heap.size < X0.heap.size := by omega
    have g5 : w.heap.size + 1 < X0.heap.size := by omega
    have hql : (pre.map fun k => mkB (chainL (d k.1) (startL secret k.1))).length ≤ 18 := by rw [List.length_map]; omega
    obtain ⟨qs, hqs⟩ : ∃ qs, (pre.map fun k => mkB (chainL (d k.1) (startL secret k.1))) = qs := ⟨_, rfl⟩
    rw [hqs] at c5 i3 i4 hql hc7
    have hnx : ((pre ++ [k]).map fun k => mkB (chainL (d k.1) (startL secret k.1))) = qs ++ [mkB (chainL (d k.1) (startL secret k.1))] := by rw [List.map_append, hqs]; rfl
    try simp only [hqs]
    obtain ⟨SL, hSL⟩ : ∃ S : ByteArray, (⟨(startL secret k.1).toArray⟩ : ByteArray) = S := ⟨_, rfl⟩
    obtain ⟨E, hE⟩ : ∃ E : ByteArray, mkB (chainL (d k.1) (startL secret k.1)) = E := ⟨_, rfl⟩
    have hSs : SL.size ≤ 1000 := by rw [← hSL, Lib.size_mk]; unfold startL listL; rw [sumL_len]; omega
    have hEs : E.size ≤ maxLen := by rw [← hE]; unfold mkB; rw [Lib.size_mk]; have : (chainL (d k.1) (startL secret k.1)).length ≤ 1000 := chainL_len (by unfold startL listL; rw [sumL_len]; omega); unfold maxLen; omega
    have hch := fun (X : World) (hx : Below W.heap.size W X) => chain_any SL (d k.1) X (by have := hle k.1; omega) (by omega) (HT.out.1.below (i2.trans (hx.mono hzW)))
    have hEE : (⟨(chainL (d k.1) SL.data.toList).toArray⟩ : ByteArray) = E := by rw [← hE, ← hSL]; rfl
    rw [hEE] at hch
    rw [hE] at hnx
    simp only [hSL]
    have hli := fun (X : World) (hx : Below W.heap.size W X) => sign1_any k.1 (d k.1) db ds X (HT.out.2.1.below (i2.trans (hx.mono hzW))) HT.out.2.2.1 (HT.out.2.2.2 k.1 k.2)
    have HC := Lib.hid (And.intro hli (And.intro hch (And.intro i1 (And.intro i2 (And.intro i3 (And.intro i4 hnx))))))
    clear hli hch i1 i2 i3 i4 hnx hEE hE hSL hqs
    gi_wp2
    obtain ⟨BB, hBB⟩ : ∃ BB, X0.heap.size = BB := ⟨_, rfl⟩
    rw [hBB] at hBX g3 g5 hsX
    have HBB := Lib.hid (And.intro hBB hsX)
    clear hBB hsX
    have hS0 : Below BB W W.drew := (Below.refl _ _).drew
    have HS0 := Lib.hid hS0
    clear hS0
    refine region_planl_round (S := fun w' => ∃ u, w' = extB BB W u) [([0, 1, 2, 3], [4, 5, 6, 7])] 8 (by kernel_rfl) (by kernel_rfl) (by kernel_rfl) (mem_extB hBX HS0.out) ?_
    refine plan_take (fun K9 h9 => ?_)
    simp only [List.map_cons, List.map_nil, pickO, List.getD_cons_zero, List.getD_cons_succ]
    repeat (go_big_quiet_step (fail))
    refine wpQuiet_nil (h9 _ ?_)
    clear h9 K9
    refine plan_run (fun K9 h9 => ?_)
    simp only [pickO, List.getD_cons_zero, List.getD_cons_succ]
    go_wp2_with (go_at_call 68; refine Calls.mono (HC.out.1 _ (Below.refl _ _).drew) ?_; rintro e w5 ⟨rfl, hbb⟩)
    have HZ := Lib.hid (Below.trans0 (Below.refl _ _).drew hbb)
    refine h9 _ _ (mem_extB hBX (HZ.out.mono hBX)) ?_
    clear h9 K9 hbb
    refine plan_run (fun K9 h9 => ?_)
    simp only [pickO, List.getD_cons_zero, List.getD_cons_succ]
    go_wp2_with (go_at_call 20; refine Calls.mono (HC.out.2.1 _ HZ.out) ?_; rintro e w6 ⟨rfl, hbb⟩)
    have HZ2 := Lib.hid (Below.trans0 HZ.out hbb)
    refine h9 _ _ (mem_extB hBX (HZ2.out.mono hBX)) ?_
    clear h9 K9 hbb
    refine plan_run (fun K9 h9 => ?_)
    simp only [pickO, List.getD_cons_zero, List.getD_cons_succ]
    go_wp2_with fail
    have HZ3 := Lib.hid (show Below W.heap.size W (w6.alloc (.cells #[.string E] 9)) from Below.alloc0 HZ2.out _)
    refine h9 _ _ (mem_extB hBX (HZ3.out.mono hBX)) ?_
    clear h9 K9
    refine plan_run (fun K9 h9 => ?_)
    simp only [pickO, List.getD_cons_zero, List.getD_cons_succ]
    have hz3 := HZ3.out.size
    go_wp2_with (at_builtin; refine list_appendL (T := tStr) (base := BB) (B := 0) (qs := qs) (v := .slice A7 qs.length c7) rfl _ _ _ rfl 16 Tryd.underlying25 (by kernel_rfl) (by decide) one_strO rfl ((by have q := HC.out.2.2.2.2.2.1; rw [HBB.out.1] at q; exact q : OwnL tStr 9 W BB 0 (.slice A7 qs.length c7) qs).below HZ3.out (by omega)) (some ⟨w6.heap.size, 0, none⟩) 1 1 [E] [[.string E]] rfl rfl rfl (fun i a1 a2 => by obtain rfl : i = 0 := (by simp at a1; omega); exact ⟨rfl, hEs⟩) (lies_bk (C := #[.string E]) (Bk.new w6 _ 9) 1) (by unfold maxLen; omega) (by omega) (by omega) (by omega) ?_; intro A8 c8 w8 hown8 hbel8 hg8 hd8)
    have HO8 := Lib.hid (And.intro hown8 (And.intro ((HZ3.out.mono hBX).trans hbel8) hg8))
    refine h9 _ _ (mem_extB hBX HO8.out.2.1) ?_
    clear h9 K9 hown8 hbel8 hg8 hd8
    refine plan_next (plan_end ?_)
    simp only [pickO, List.getD_cons_zero, List.getD_cons_succ]
    have b58 := HC.out.2.2.2.2.1.below' HO8.out.2.1 (by omega)
    have c58 := b58.cell 0
    have l58 := b58.lt
    have f58 := b58.free 0
    go_wp2_with fail
    have hz8 := HO8.out.2.1.size
    have hcells : ∀ (j : Nat) (o : Obj), (Value.slice A7 qs.length c7).ownBlock = some j → (w6.alloc (.cells #[.string E] 9)).heap[j]? = some o → o.isCells = true := fun j o hj ho => by
      obtain ⟨css, _, _, hown⟩ := HC.out.2.2.2.2.2.1
      obtain ⟨C, hC⟩ := own_typedQ hown hj
      have hC' : (w6.alloc (.cells #[.string E] 9)).heap[j]? = some (.cells C 9 (0, 0)) := (HZ3.out.block j hC.lt).trans hC
      rw [hC'] at ho
      cases ho
      rfl
    have hne : w.heap.size + 1 + 1 < BB := by have := HBB.out.2; omega
    refine ⟨((keepsFrom_below HZ3.out).trans ((KeepsOthers.of_grownBy HO8.out.2.2 hcells).from _)).trans ((KeepsOthers.setCell _ _ _).from _), ⟨(HO8.out.2.1.mono (by omega)).setCell (by simp) _, fun hb => ?_⟩, ⟨(HC.out.2.2.1.below' HO8.out.2.1 (by omega)).far (by show w.heap.size ≠ w.heap.size + 1; omega) _, (HC.out.2.2.2.1.trans (HO8.out.2.1.mono (by omega))).setCell (by simp) _, ?_⟩, _, b58.set_ 0 _, ?_⟩
    · exact ((Only.refl (fun g => g = w.heap.size + 1) w8).set_ (p := ⟨w.heap.size + 1, 0, none⟩) (.inl rfl) _).block _ (by omega) (by omega) |>.trans (HO8.out.2.1.block _ hne)
    · have : X0.heap.size ≤ w8.heap.size := by rw [HBB.out.1]; omega
      simpa using this
    · rw [HC.out.2.2.2.2.2.2, HBB.out.1]
      refine HO8.out.1.only (S := fun g => g = w.heap.size + 1) ((Only.refl (fun g => g = w.heap.size + 1) w8).set_ (p := ⟨w.heap.size + 1, 0, none⟩) (.inl rfl) _) (fun _ _ => Nat.zero_le _) (Nat.zero_le _) (fun g hg hs => ?_)
      have := HO8.out.1.lt g hg
      omega
  case done =>
    rintro D ys W hD hS ⟨⟨i1, i2, hBX⟩, v, i3, i4⟩ hK
    obtain ⟨A7, c7, rfl, hc7, hmx⟩ := i4.form
    have hlen : ys.length = 18 := by have := congrArg List.length hS; simpa using this
    have hw : (ys.map fun k => mkB (chainL (d k.1) (startL secret k.1))) = (walkL secret d).map mkB := by
      unfold walkL
      rw [← hS, List.map_map, List.map_map]
      rfl
    rw [hw] at i3 i4
    have hl18 : ((walkL secret d).map mkB).length = 18 := by rw [List.length_map, walkL_len]
    rw [hl18] at i3 i4
    have c5 := i3.cell 0
    have l5 := i3.lt
    have HD := Lib.hid (And.intro i4 i2)
    clear i1 i2 i3 i4 hw hl18
    gi_wp2
    refine ⟨by simp, .inl ⟨_, _, rfl, run_takeDeferred hK, ?_⟩⟩
    refine ⟨_, results_tmp Tryd.results45 _ _ _, A7, c7, rfl, ?_, HD.out.2.trans (belowK_b (w := w) (Nat.le_refl _) W D _ _ (by omega) hK rfl rfl)⟩
    have ho : OwnL tStr 9 (W.putObj D (.deferred none)) X0.heap.size 0 (.slice A7 18 c7) ((walkL secret d).map mkB) := by
      refine HD.out.1.only (S := fun g => g = D) ⟨(grownBy_putObj' W D _).os, (grownBy_putObj' W D _).tape, (grownBy_putObj' W D _).output, (grownBy_putObj' W D _).size, fun k hk hn => (grownBy_putObj' W D (.deferred none)).block k hk (fun e => hn (by cases e; rfl))⟩ (fun _ _ => Nat.zero_le _) (Nat.zero_le _) (fun g hg hs => ?_)
      obtain ⟨css, _, _, hown⟩ := HD.out.1
      obtain ⟨C, hC⟩ := own_typedQ hown hg
      have hC' : W.heap[g]? = some (.cells C 9 (0, 0)) := hC
      rw [hs, hK] at hC'
      cases hC'
    exact ho.rebase (by omega)
  case stop =>
    rintro D c pre W hD _ h
    exact h.elim
end Go.Proofs.YtojkpoikamcgkaaDoor
