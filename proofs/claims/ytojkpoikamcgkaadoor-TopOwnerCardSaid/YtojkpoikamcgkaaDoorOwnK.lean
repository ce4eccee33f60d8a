/- Layer 30 (title): Message. -/
import Derived.Test.YtojkpoikamcgkaaDoorOwnJ
namespace Go.Proofs.YtojkpoikamcgkaaDoor
open Go.RowKit
set_option linter.unusedVariables false
set_option linter.unusedSimpArgs false
attribute [local go_sem] ext_cell ext_frozen lt_ext ext_drew

/-- What an owner signs. -/
def messageL (se sh : Int) (fi : ByteArray) (ch : List Tr) (key : ByteArray) : List UInt8 :=
  listL ([Lib.itoa se, Lib.itoa sh, fi.data.toList] ++ ch.map (fun x => x.1.data.toList) ++ [key.data.toList])
theorem ownS_three {w : World} {base g : Nat} {a b c : ByteArray} (h : Bk w g #[.string a, .string b, .string c] 9) (hb : base ≤ g) (ha : a.size ≤ maxLen) (hb2 : b.size ≤ maxLen) (hc : c.size ≤ maxLen) :
    OwnL tStr 9 w base 0 (.slice (some ⟨g, 0, none⟩) 3 3) [a, b, c] := by
  refine ⟨[[.string a], [.string b], [.string c]], rfl, fun i h1 h2 => ?_, by simp [tStr], .inr ⟨g, 3, #[.string a, .string b, .string c], rfl, hb, h, Nat.le_refl 3, by unfold maxLen; decide, rfl, rfl⟩⟩
  simp at h1
  rcases i with _ | _ | _ | i
  · exact ⟨rfl, ha⟩
  · exact ⟨rfl, hb2⟩
  · exact ⟨rfl, hc⟩
  · omega
theorem list_anyN (A : Option Addr) (ls : List ByteArray) (n cap : Nat) (w : World) (B : Nat) (hn : n = ls.length) (h : Elems tStr w B A ls) (hB : B ≤ w.heap.size) (hl : n ≤ 1000) (hs : ∀ s ∈ ls, s.size ≤ 1000) (ht : Tabs w) :
    Calls Tryd.prog 21 #[.slice A n cap] w fun e w' => e = .returned (.string ⟨(listL (bytesL ls)).toArray⟩) ∧ Below w.heap.size w w' := by
  subst hn
  exact list_any A ls cap w B h hB hl hs ht
theorem map_take {α β : Type} (f : α → β) {xs : List α} {k : Nat} {x : α} (h : xs[k]? = some x) : (xs.take (k + 1)).map f = (xs.take k).map f ++ [f x] := by
  rw [List.take_add_one, h, List.map_append]
  rfl
set_option maxRecDepth 100000 in
set_option maxHeartbeats 2000000 in
theorem message_any (key : ByteArray) (se sh pl : Int) (fi : ByteArray) (A : Option Addr) (ch : List Tr) (cap : Nat) (w : World) (B : Nat) (h : Elems tTr w B A ch) (hB : B ≤ w.heap.size) (hl : ch.length ≤ 900)
    (hf : fi.size ≤ 1000) (hx : ∀ x ∈ ch, x.1.size ≤ 1000) (hk : key.size ≤ 1000) (s1 : -9223372036854775808 ≤ se) (s2 : se ≤ 9223372036854775807) (s3 : -9223372036854775808 ≤ sh) (s4 : sh ≤ 9223372036854775807) (ht : Tabs w) :
    Calls Tryd.prog 10 #[.agg #[.int .i64 se, .int .i64 sh, .int .i64 pl, .string fi, .slice A ch.length cap], .string key] w fun e w' => e = .returned (.string ⟨(messageL se sh fi ch key).toArray⟩) ∧ Below w.heap.size w w' := by
  have hB1 : Below w.heap.size w (w.alloc (.cells #[.int .i64 se, .int .i64 sh, .int .i64 pl, .string fi, .slice A ch.length cap] 24)) := below_self w _
  have b0 : Bk (w.alloc (.cells #[.int .i64 se, .int .i64 sh, .int .i64 pl, .string fi, .slice A ch.length cap] 24)) w.heap.size #[.int .i64 se, .int .i64 sh, .int .i64 pl, .string fi, .slice A ch.length cap] 24 := Bk.new _ _ _
  have HT := Lib.hid (And.intro (ht.below hB1) ht)
  have hsz : (w.alloc (.cells #[.int .i64 se, .int .i64 sh, .int .i64 pl, .string fi, .slice A ch.length cap] 24)).heap.size = w.heap.size + 1 := by simp
  have HB1 := Lib.hid (And.intro hB1 h)
  clear h hB1 ht
  go_enter Tryd.func10, Tryd.ntmps10
  go_upto_region 1 with (fail)
  generalize w.alloc (.cells #[.int .i64 se, .int .i64 sh, .int .i64 pl, .string fi, .slice A ch.length cap] 24) = W at *
  have c0 := b0.cell 0
  have c1 := b0.cell 1
  have c3 := b0.cell 3
  have l0 := b0.lt
  obtain ⟨I1, hI1⟩ : ∃ I : ByteArray, I = ⟨(Lib.itoa se).toArray⟩ := ⟨_, rfl⟩
  obtain ⟨I2, hI2⟩ : ∃ I : ByteArray, I = ⟨(Lib.itoa sh).toArray⟩ := ⟨_, rfl⟩
  have hi1 : I1.size ≤ 21 := by rw [hI1, Lib.size_mk]; exact Lib.itoa_length_le se s1 s2
  have hi2 : I2.size ≤ 21 := by rw [hI2, Lib.size_mk]; exact Lib.itoa_length_le sh s3 s4
  have hc1 := fun (X : World) (ht : Tabs X) => itoa_any se s1 s2 X ht
  have hc2 := fun (X : World) (ht : Tabs X) => itoa_any sh s3 s4 X ht
  rw [← hI1] at hc1
  rw [← hI2] at hc2
  have HC := Lib.hid (And.intro hc1 (And.intro hc2 (And.intro hI1 (And.intro hI2 b0))))
  clear hc1 hc2 hI1 hI2 b0
  refine region_planx W [([0, 1, 3, 4, 6, 7], [2, 5, 8]), ([9], [])] (Below.refl _ _) (by kernel_rfl) (by kernel_rfl) (fun u => ?_)
  refine plan_take (fun K9 h9 => ?_)
  simp only [List.map_cons, List.map_nil, pickO, List.getD_cons_zero, List.getD_cons_succ]
  repeat (go_big_quiet_step (fail))
  refine wpQuiet_nil (h9 _ ?_)
  clear h9 K9
  refine plan_run (fun K9 h9 => ?_)
  simp only [pickO, List.getD_cons_zero, List.getD_cons_succ]
  go_wp2_with (go_at_call 22; refine Calls.mono (HC.out.1 _ (HT.out.1.below (below_ext W _))) ?_; rintro e w' ⟨rfl, hbb⟩; obtain ⟨u, rfl⟩ := ext_more hbb; clear hbb)
  refine h9 _ _ mem_ext ?_
  clear h9 K9
  refine plan_run (fun K9 h9 => ?_)
  simp only [pickO, List.getD_cons_zero, List.getD_cons_succ]
  go_wp2_with (go_at_call 22; refine Calls.mono (HC.out.2.1 _ (HT.out.1.below (below_ext W _))) ?_; rintro e w' ⟨rfl, hbb⟩; obtain ⟨u, rfl⟩ := ext_more hbb; clear hbb)
  refine h9 _ _ mem_ext ?_
  clear h9 K9
  refine plan_run (fun K9 h9 => ?_)
  simp only [pickO, List.getD_cons_zero, List.getD_cons_succ]
  go_wp2_with fail
  refine h9 _ _ (mem_ext_alloc (X := W)) ?_
  clear h9 K9
  refine plan_next ?_
  refine plan_take (fun K9 h9 => ?_)
  simp only [List.map_cons, List.map_nil, pickO, List.getD_cons_zero, List.getD_cons_succ]
  repeat (go_big_quiet_step (fail))
  refine wpQuiet_nil (h9 _ ?_)
  clear h9 K9
  refine plan_next (plan_end ?_)
  go_upto_region 2 with (fail)
  have hlit : Bk ((ext W u).alloc (.cells #[.string I1, .string I2, .string fi] 9)) (ext W u).heap.size #[.string I1, .string I2, .string fi] 9 := Bk.new _ _ _
  have hge : w.heap.size + 1 ≤ (ext W u).heap.size := by have := (below_ext W u).size; omega
  have hbw : Below W.heap.size W ((ext W u).alloc (.cells #[.string I1, .string I2, .string fi] 9)) := Below.alloc0 (below_ext W u) _
  refine forget (fun Y => Below w.heap.size w Y ∧ Bk Y w.heap.size #[.int .i64 se, .int .i64 sh, .int .i64 pl, .string fi, .slice A ch.length cap] 24 ∧ OwnL tStr 9 Y (w.heap.size + 1) 0 (.slice (some ⟨(ext W u).heap.size, 0, none⟩) 3 3) [I1, I2, fi]) ⟨HB1.out.1.trans (hbw.mono (by omega)), HC.out.2.2.2.2.below hbw, ownS_three hlit hge (by unfold maxLen; omega) (by unfold maxLen; omega) (by unfold maxLen; omega)⟩ ?_
  have hmsg : messageL se sh fi ch key = listL (bytesL ([I1, I2, fi] ++ ch.map (·.1) ++ [key])) := by
    rw [HC.out.2.2.1, HC.out.2.2.2.1]
    unfold messageL bytesL
    simp
    rfl
  have Hmsg := Lib.hid (And.intro hmsg hx)
  clear hlit hbw HC c0 c1 c3 l0 hmsg hx
  generalize (ext W u).heap.size = G at *
  rintro Y ⟨hY, b0, hown⟩
  have c4 := b0.cell 4
  have l0 := b0.lt
  have hzY := hY.size
  have HY := Lib.hid (And.intro hY (And.intro b0 hown))
  clear hY b0 hown
  go_wp2_with fail
  go_loopw [5, 7, 20] (fun v _ i wr => ∃ k : Nat, k ≤ ch.length ∧ i = .int .i64 k ∧ OwnL tStr 9 wr (w.heap.size + 1) 0 v ([I1, I2, fi] ++ (ch.take k).map (·.1)) ∧ Below (w.heap.size + 1) Y wr) (fun _ _ i _ => ch.length - (intOf i).toNat)
  case atStart => exact ⟨0, by omega, rfl, HY.out.2.2, Below.refl _ _⟩
  case round =>
    obtain ⟨k, hk, rfl, hown, hlow⟩ := hrel
    generalize wr = wA at *
    have hz := hlow.size
    obtain ⟨A7, c7, rfl, hc7, hmx⟩ := hown.form
    by_cases hlt : k < ch.length
    · as_aux_lemma =>
      obtain ⟨b, off, tk, AS, ss, cs, rfl, hb, Hk, d0, d1, htk, hs, HE⟩ := pick_tr (HB1.out.2.keep ((HY.out.1.trans (hlow.mono (by omega))).mono hB) (Nat.le_refl _)) hlt
      have hkl : (k : Int) < (ch.length : Int) := by omega
      have bw : b < wA.heap.size := by omega
      have htk2 : tk.size ≤ 1000 := Hmsg.out.2 _ (List.mem_of_getElem? Hk.out)
      have hmt := map_take (fun x : Tr => x.1) Hk.out
      have hql : ([I1, I2, fi] ++ (ch.take k).map (·.1)).length ≤ 903 := by rw [List.length_append, List.length_map, List.length_take]; simp; omega
      obtain ⟨qs, hqs⟩ : ∃ qs, [I1, I2, fi] ++ (ch.take k).map (·.1) = qs := ⟨_, rfl⟩
      have hnx : [I1, I2, fi] ++ (ch.take (k + 1)).map (·.1) = qs ++ [tk] := by rw [hmt, ← hqs]; rfl
      simp only [hqs]
      rw [hqs] at hown hql hc7
      have HA := Lib.hid (And.intro hown (And.intro hlow hnx))
      clear hown hlow hnx hqs hmt
      go_wp2_with (at_builtin; refine list_appendL (T := tStr) (base := w.heap.size + 1) (B := 0) (qs := qs) (v := .slice A7 qs.length c7) rfl _ _ _ rfl 16 Tryd.underlying25 (by kernel_rfl) (by decide) one_strO rfl ((HA.out.1.below (below_self _ _) (Nat.zero_le _)).below (below_self _ _) (Nat.zero_le _)) (some ⟨wA.heap.size + 1, 0, none⟩) 1 1 [tk] [[.string tk]] rfl rfl rfl (fun i a1 a2 => by obtain rfl : i = 0 := (by simp at a1; omega); exact ⟨rfl, (show tk.size ≤ maxLen by unfold maxLen; omega)⟩) (lies_bk (C := #[.string tk]) (bk_next wA _ _ 9) 1) (by unfold maxLen; omega) (by omega) (by simp; omega) (by omega) ?_; intro A8 c8 w8 hown8 hbel8 hg8 hd8; have H8 := Lib.hid (And.intro hown8 hbel8); clear hown8 hbel8 hg8 hd8)
      go_roundw
      case rel => exact ⟨k + 1, by omega, by go_num, by rw [HA.out.2.2]; exact H8.out.1, HA.out.2.1.trans (Below.trans (Below.alloc (Below.alloc (Below.refl _ _) (by omega) _) (by simp; omega) _) H8.out.2)⟩
      case measure => simp [intOf]; omega
    · as_aux_lemma =>
      obtain rfl : k = ch.length := by omega
      rw [List.take_length] at hown hc7
      simp only [List.take_length]
      have hql : ([I1, I2, fi] ++ ch.map (·.1)).length ≤ 903 := by rw [List.length_append, List.length_map]; simp; omega
      have hqs9 : ∀ q ∈ [I1, I2, fi] ++ ch.map (·.1), q.size ≤ 1000 := by
        intro q hq
        rcases List.mem_append.1 hq with h | h
        · simp only [List.mem_cons, List.not_mem_nil, or_false] at h
          rcases h with rfl | rfl | rfl <;> omega
        · obtain ⟨x, hx, rfl⟩ := List.mem_map.1 h
          exact Hmsg.out.2 x hx
      obtain ⟨qs, hqs⟩ : ∃ qs, [I1, I2, fi] ++ ch.map (·.1) = qs := ⟨_, rfl⟩
      have hm9 := Hmsg.out.1
      simp only [hqs]
      rw [hqs] at hown hql hc7 hqs9 hm9
      have hqs8 : ∀ q ∈ qs ++ [key], q.size ≤ 1000 := by
        intro q hq
        rcases List.mem_append.1 hq with h | h
        · exact hqs9 q h
        · obtain rfl : q = key := by simpa using h
          exact hk
      have HA := Lib.hid (And.intro hown (And.intro hlow (And.intro hm9 hqs8)))
      clear hown hlow hqs hqs9 hm9 hqs8
      go_wp2_with (first
        | (at_builtin; refine list_appendL (T := tStr) (base := w.heap.size + 1) (B := 0) (qs := qs) (v := .slice A7 qs.length c7) rfl _ _ _ rfl 16 Tryd.underlying25 (by kernel_rfl) (by decide) one_strO rfl (HA.out.1.below (below_self _ _) (Nat.zero_le _)) (some ⟨wA.heap.size, 0, none⟩) 1 1 [key] [[.string key]] rfl rfl rfl (fun i a1 a2 => by obtain rfl : i = 0 := (by simp at a1; omega); exact ⟨rfl, (show key.size ≤ maxLen by unfold maxLen; omega)⟩) (lies_bk (C := #[.string key]) (Bk.new wA _ 9) 1) (by unfold maxLen; omega) (by omega) (by simp; omega) (by omega) ?_; intro A8 c8 w8 hown8 hbel8 hg8 hd8; have H8 := Lib.hid (And.intro hown8 (HA.out.2.1.trans (Below.trans (Below.alloc (Below.refl _ _) (by omega) _) hbel8))); clear hown8 hbel8 hg8 hd8)
        | (go_at_call 21; refine (list_anyN A8 (qs ++ [key]) (qs.length + 1) c8 _ w8.heap.size (by simp) (H8.out.1.elems (by omega) (Nat.le_refl _)) (Nat.le_refl _) (by omega) HA.out.2.2.2 (HT.out.2.below (HY.out.1.trans (H8.out.2.mono (by omega))))).mono ?_; rintro e w2 ⟨rfl, z1⟩; have HZ := Lib.hid z1; clear z1))
      go_ret
      have hz8 := H8.out.2.size
      exact ⟨by rw [HA.out.2.2.1]; simp [bytesL], (HY.out.1.trans (H8.out.2.mono (by omega))).trans (HZ.out.mono (by omega))⟩
end Go.Proofs.YtojkpoikamcgkaaDoor
