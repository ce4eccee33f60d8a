/- Layer 3 (sign): Verify. -/
import Derived.Test.YtojkpoikamcgkaaDoorOwnF
import Derived.Test.YtojkpoikamcgkaaDoorRow
namespace Go.Proofs.YtojkpoikamcgkaaDoor
open Go.RowKit
set_option linter.unusedVariables false
set_option linter.unusedSimpArgs false
attribute [local go_sem] ext_cell ext_frozen lt_ext ext_drew

/-- What the parts of a signature lead to. -/
def endsL (m : List UInt8) (sig : List (List UInt8)) : List (List UInt8) := List.zipWith (fun s d => chainL (15 - d) s) sig (digitsL m)
def verifyL (pub m : List UInt8) (sig : List (List UInt8)) : Bool := decide (sig.length = 18) && sig.all isL && decide (listL (endsL m sig) = pub)
theorem endsL_take {m : List UInt8} {sig : List (List UInt8)} {k : Nat} {s : List UInt8} {d : Nat} (h : sig[k]? = some s) (hd : (digitsL m)[k]? = some d) : (endsL m sig).take (k + 1) = (endsL m sig).take k ++ [chainL (15 - d) s] := by
  rw [List.take_add_one]
  unfold endsL
  rw [List.getElem?_zipWith, h, hd]
  rfl
def mkB (l : List UInt8) : ByteArray := ⟨l.toArray⟩
theorem mkB_data (l : List UInt8) : (mkB l).data.toList = l := rfl
theorem chainL_len {n : Nat} {l : List UInt8} (h : l.length ≤ 1000) : (chainL n l).length ≤ 1000 := by
  cases n with
  | zero => exact h
  | succ n => rw [chainL_succ, sumL_len]; omega
theorem one_strO : ∀ (w : World) (B : Nat) (cs : List Value) (x : ByteArray), tStr.rd w B cs x → ∀ u ∈ cs, u.oneCell' = true := by
  rintro w B cs x ⟨rfl, _⟩ u hu
  simp at hu
  subst hu
  rfl
theorem all_takeO {α : Type} {xs : List α} {k : Nat} {x : α} (p : α → Bool) (h : xs[k]? = some x) : (xs.take (k + 1)).all p = ((xs.take k).all p && p x) := by
  rw [List.take_add_one, h, List.all_append]
  simp
theorem all_badO {α : Type} {xs : List α} {k : Nat} {x : α} {p : α → Bool} (h : xs[k]? = some x) (hp : p x = false) : xs.all p = false := by
  cases hh : xs.all p with
  | false => rfl
  | true => rw [List.all_eq_true] at hh; rw [hh x (List.mem_of_getElem? h)] at hp; cases hp
theorem eq_bytes (a b : ByteArray) : (a.toList == b.toList) = decide (a.data.toList = b.data.toList) := by
  rw [ByteArray.toList_eq, ByteArray.toList_eq]
  rw [Bool.eq_iff_iff]
  simp
set_option maxRecDepth 100000 in
set_option maxHeartbeats 2000000 in
theorem verify_any (pub m : ByteArray) (A : Option Addr) (sig : List ByteArray) (cap : Nat) (w : World) (B : Nat) (h : Elems tStr w B A sig) (hB : B ≤ w.heap.size) (hl : sig.length ≤ 1000) (hs : ∀ s ∈ sig, s.size ≤ 1000) (hm : m.size ≤ 9223372036854775807) (ht : Tabs w) :
    Calls Tryd.prog 8 #[.string pub, .string m, .slice A sig.length cap] w fun e w' => e = .returned (.bool (verifyL pub.data.toList m.data.toList (bytesL sig))) ∧ Below w.heap.size w w' := by
  have HH := Lib.hid (And.intro h (And.intro hs ht))
  clear h hs ht
  go_enter Tryd.func8, Tryd.ntmps8
  by_cases h18 : sig.length = 18
  case neg =>
    have hb : ((sig.length : Int) != 18) = true := by simpa using (show ¬ (sig.length : Int) = 18 by omega)
    go_wp2_with fail
    go_ret
    refine ⟨?_, Below.refl _ _⟩
    unfold verifyL
    simp [h18]
  have hb : ((sig.length : Int) != 18) = false := by simpa using (show (sig.length : Int) = 18 by omega)
  have hlen := digitsL_len m.data.toList
  have hle := digitsL_le (m := m.data.toList)
  obtain ⟨ds, hds⟩ : ∃ ds, digitsL m.data.toList = ds := ⟨_, rfl⟩
  rw [hds] at hlen hle
  have hdg := fun (X : World) (ht : HexTab X) => digits_any m X hm ht
  rw [hds] at hdg
  have hdsz : (digV ds).size = 18 := by rw [digV_size, hlen]
  have hone : (digV ds).all (·.oneCell') = true := by
    rw [Array.all_eq_true_iff_forall_mem]
    intro u hu
    unfold digV at hu
    rw [List.mem_toArray, List.mem_map] at hu
    obtain ⟨d, _, rfl⟩ := hu
    rfl
  have HD := Lib.hid (And.intro hdg (And.intro hds hle))
  clear hdg hds hle
  go_upto_region 4 with (first
    | (go_at_call 18; refine (HD.out.1 _ HH.out.2.2.1).mono ?_; rintro e w2 ⟨rfl, z1⟩; have HZ := Lib.hid z1; clear z1)
    | (refine list_store_bk (o := ⟨none, .store 44 _ _, _, _, _, _⟩) rfl _ _ _ rfl w2.heap.size (digV ds) rfl rfl (Bk.new w2 _ _) (by rw [hdsz]; kernel_rfl) (by rw [hdsz]; rfl) hone ?_; intro X7 hb7 ho7; have H7 := Lib.hid (And.intro hb7 ho7); clear hb7 ho7))
  have hz2 := HZ.out.size
  refine forget (fun Y => Below w.heap.size w Y ∧ Bk Y w2.heap.size (digV ds) 44) ⟨(HZ.out.alloc hz2 _).trans (H7.out.2.to_below (fun g hg => by omega) (by simp; omega)), H7.out.1⟩ ?_
  clear H7 HZ
  generalize w2.heap.size = db at *
  rintro Y ⟨hY, bd⟩
  have hzY := hY.size
  have lbd := bd.lt
  have HY := Lib.hid (And.intro hY bd)
  clear hY bd
  have hel : (endsL m.data.toList (bytesL sig)).length = sig.length := by unfold endsL; rw [List.length_zipWith, HD.out.2.1, hlen]; simp [h18]
  have Hel := Lib.hid hel
  clear hel
  go_wp2_with fail
  go_loopw [8, 9, 10, 18] (fun v _ _ i wr => ∃ k : Nat, k ≤ sig.length ∧ i = .int .i64 k ∧ OwnL tStr 9 wr Y.heap.size 0 v (((endsL m.data.toList (bytesL sig)).take k).map mkB) ∧ (((bytesL sig).take k).all isL = true) ∧ Below Y.heap.size Y wr) (fun _ _ _ i _ => sig.length - (intOf i).toNat)
  case atStart => exact ⟨0, by omega, rfl, OwnL.nil, rfl, Below.refl _ _⟩
  case round =>
    obtain ⟨k, hk, rfl, hown, hall, hlow⟩ := hrel
    generalize wr = wA at *
    have hz := hlow.size
    by_cases hlt : k < sig.length
    · as_aux_lemma =>
      obtain ⟨b, off, s, cs, rfl, hbB, _, Hx, _, ⟨rfl, _⟩, hc⟩ := (HH.out.1.keep ((HY.out.1.trans (hlow.mono hzY)).mono hB) (Nat.le_refl _)).pick hlt
      have c0 : wA.cell? ⟨b, off + k, none⟩ = some (.string s) := by
        have := hc 0 _ rfl
        have e : tStr.n = 1 := rfl
        simpa [e] using this
      have bw : b < wA.heap.size := by omega
      have hkl : (k : Int) < (sig.length : Int) := by omega
      have hss := HH.out.2.1 s (List.mem_of_getElem? Hx)
      have hbx : (bytesL sig)[k]? = some s.data.toList := by rw [List.getElem?_map, Hx]; rfl
      obtain ⟨d, hd⟩ : ∃ d, ds[k]? = some d := ⟨ds[k]'(by omega), List.getElem?_eq_getElem _⟩
      have hd15 := HD.out.2.2 d (List.mem_of_getElem? hd)
      have bd := HY.out.2.below hlow
      have c1 : wA.cell? ⟨db, k, none⟩ = some (.int .i64 d) := by rw [bd.cell, digV_at hd]
      have ld : db < wA.heap.size := by omega
      have hds : (15 : Int) - (d : Int) = ((15 - d : Nat) : Int) := by omega
      have hst := endsL_take hbx (d := d) (by rw [HD.out.2.1]; exact hd)
      have hal := all_takeO isL hbx
      rw [hall, Bool.true_and] at hal
      by_cases his : isL s.data.toList = true
      · obtain ⟨A7, c7, rfl, hc7, hmx⟩ := hown.form
        have hql : (((endsL m.data.toList (bytesL sig)).take k).map mkB).length = k := by rw [List.length_map, List.length_take, Hel.out]; omega
        obtain ⟨qs, hqs⟩ : ∃ qs, ((endsL m.data.toList (bytesL sig)).take k).map mkB = qs := ⟨_, rfl⟩
        rw [hqs] at hown hql hc7
        simp only [hqs]
        have hqk : qs.length ≤ k := by omega
        clear hql
        obtain ⟨E, hE⟩ : ∃ E, chainL (15 - d) s.data.toList = E := ⟨_, rfl⟩
        have hEl : E.length ≤ 1000 := by rw [← hE]; exact chainL_len (by simpa using hss)
        have hEs : (⟨E.toArray⟩ : ByteArray).size ≤ maxLen := by rw [Lib.size_mk]; unfold maxLen; omega
        have hch := fun (X : World) (ht : Tabs X) => chain_any s (15 - d) X (by omega) (by omega) ht
        rw [hE] at hch hst
        have hnx : ((endsL m.data.toList (bytesL sig)).take (k + 1)).map mkB = qs ++ [⟨E.toArray⟩] := by rw [hst, List.map_append, hqs]; rfl
        rw [his] at hal
        have his9 := fun (X : World) => is_any s X (by omega)
        rw [his] at his9
        have HA := Lib.hid (And.intro hown (And.intro hlow (And.intro hal (And.intro hnx (And.intro hch his9)))))
        have HB := Lib.hid (And.intro bd (And.intro hd ld))
        clear hown hlow hal hnx hch hst his9 hqs hE hc Hx hbx hd bd his hall c1
        go_wp2_with fail
        refine (HA.out.2.2.2.2.2 _).mono ?_
        rintro e w2 ⟨rfl, z1⟩
        have HZ := Lib.hid z1
        have hz2 := z1.size
        have c1 : w2.cell? ⟨db, k, none⟩ = some (.int .i64 d) := by rw [(HB.out.1.below z1).cell, digV_at HB.out.2.1]
        clear z1
        go_wp2_with (first
          | (go_at_call 20; refine (HA.out.2.2.2.2.1 _ (HH.out.2.2.below ((HY.out.1.trans (HA.out.2.1.mono hzY)).trans (HZ.out.mono (by omega))))).mono ?_; rintro e w3 ⟨rfl, z1⟩; have HZ2 := Lib.hid z1; have hz3 := z1.size; clear z1)
          | (at_builtin; refine list_appendL (T := tStr) (base := Y.heap.size) (B := 0) (qs := qs) (v := .slice A7 qs.length c7) rfl _ _ _ rfl 16 Tryd.underlying25 (by kernel_rfl) (by decide) one_strO rfl (((HA.out.1.below HZ.out (by omega)).below HZ2.out (by omega)).below (below_self _ _) (by omega)) (some ⟨w3.heap.size, 0, none⟩) 1 1 [⟨E.toArray⟩] [[.string ⟨E.toArray⟩]] rfl rfl rfl (fun i a1 a2 => by obtain rfl : i = 0 := (by simp at a1; omega); exact ⟨rfl, hEs⟩) (lies_bk (C := #[.string ⟨E.toArray⟩]) (Bk.new w3 _ 9) 1) (by unfold maxLen; omega) (by omega) (by simp; omega) (by omega) ?_; intro A8 c8 w8 hown8 hbel8 hg8 hd8; have H8 := Lib.hid (And.intro hown8 hbel8); clear hown8 hbel8 hg8 hd8))
        go_roundw
        case rel => exact ⟨k + 1, by omega, by go_num, by rw [HA.out.2.2.2.1]; exact H8.out.1, HA.out.2.2.1, HA.out.2.1.trans ((HZ.out.mono hz).trans ((HZ2.out.mono (by omega)).trans ((Below.alloc (Below.refl _ _) (by omega) _).trans H8.out.2)))⟩
        case measure => simp [intOf]; omega
      · have his0 : isL s.data.toList = false := by simpa using his
        have hbad := all_badO hbx his0
        have his9 := fun (X : World) => is_any s X (by omega)
        rw [his0] at his9
        have HA := Lib.hid (And.intro hown (And.intro hlow (And.intro hbad his9)))
        clear hown hlow hbad his9 hc Hx hbx hd bd his his0 hall hst hal
        go_wp2_with (go_at_call 19; refine (HA.out.2.2.2 _).mono ?_; rintro e w2 ⟨rfl, z1⟩; have HZ := Lib.hid z1; have hz2 := z1.size; clear z1)
        go_ret
        refine ⟨?_, (HY.out.1.trans (HA.out.2.1.mono hzY)).trans (HZ.out.mono (by omega))⟩
        unfold verifyL
        rw [HA.out.2.2.1]
        simp
    · as_aux_lemma =>
      obtain rfl : k = sig.length := by omega
      obtain ⟨A7, c7, rfl, hc7, hmx⟩ := hown.form
      rw [List.take_of_length_le (by rw [Hel.out]; exact Nat.le_refl _)] at hown hc7
      rw [List.take_of_length_le (by simp)] at hall
      rw [List.take_of_length_le (by rw [Hel.out]; exact Nat.le_refl _)]
      have hql : ((endsL m.data.toList (bytesL sig)).map mkB).length = sig.length := by rw [List.length_map, Hel.out]
      have hsz : ∀ q ∈ (endsL m.data.toList (bytesL sig)).map mkB, q.size ≤ 1000 := by
        intro q hq
        obtain ⟨l, hl9, rfl⟩ := List.mem_map.1 hq
        unfold endsL at hl9
        rw [List.mem_iff_getElem?] at hl9
        obtain ⟨i, hi⟩ := hl9
        rw [List.getElem?_zipWith_eq_some] at hi
        obtain ⟨x, y, hx, hy, rfl⟩ := hi
        have hxm := List.mem_of_getElem? hx
        obtain ⟨s9, h9, rfl⟩ := List.mem_map.1 hxm
        have := HH.out.2.1 s9 h9
        show (mkB _).size ≤ 1000
        unfold mkB
        rw [Lib.size_mk]
        exact chainL_len (by simpa using this)
      have hbl : bytesL ((endsL m.data.toList (bytesL sig)).map mkB) = endsL m.data.toList (bytesL sig) := by
        unfold bytesL
        rw [List.map_map]
        exact List.map_id _
      obtain ⟨qs, hqs⟩ : ∃ qs, (endsL m.data.toList (bytesL sig)).map mkB = qs := ⟨_, rfl⟩
      have hvl : verifyL pub.data.toList m.data.toList (bytesL sig) = (listL (bytesL qs) == pub.toList) := by
        rw [← hqs, hbl, ByteArray.toList_eq]
        unfold verifyL
        rw [hall, Bool.eq_iff_iff]
        simp [h18]
      rw [hqs] at hown hql hsz hc7
      have hq1 : qs.length ≤ 1000 := by omega
      have HA := Lib.hid (And.intro hown (And.intro hlow (And.intro hsz hvl)))
      clear hown hlow hsz hvl hbl hall
      simp only [hqs]
      clear hqs hql
      have hels := HA.out.1.elems (B2 := wA.heap.size) (by omega) (Nat.le_refl _)
      have HE := Lib.hid hels
      clear hels
      go_wp2_with (go_at_call 21; refine (list_any A7 qs c7 _ wA.heap.size HE.out (Nat.le_refl _) hq1 HA.out.2.2.1 (HH.out.2.2.below (HY.out.1.trans (HA.out.2.1.mono hzY)))).mono ?_; rintro e w2 ⟨rfl, z1⟩; have HZ := Lib.hid z1; have hz2 := z1.size; clear z1)
      go_ret
      exact ⟨by rw [HA.out.2.2.2]; rfl, (HY.out.1.trans (HA.out.2.1.mono hzY)).trans (HZ.out.mono (by omega))⟩
end Go.Proofs.YtojkpoikamcgkaaDoor
