/- Layer 3 (sign): Public, Sign; in plain words: what Sign returns is a signature of its key. -/
import Derived.Test.YtojkpoikamcgkaaDoorOwnR
namespace Go.Proofs.YtojkpoikamcgkaaDoor
open Go.RowKit Go.Shelf
set_option linter.unusedVariables false
set_option linter.unusedSimpArgs false
attribute [local go_sem] ext_cell ext_frozen lt_ext ext_drew

def publicL (s : ByteArray) : List UInt8 := listL (walkL s fun _ => 15)
def signL (s : ByteArray) (m : List UInt8) : List (List UInt8) := walkL s fun i => (digitsL m).getD i 0
theorem bytes_mkB (l : List (List UInt8)) : bytesL (l.map mkB) = l := by
  unfold bytesL
  rw [List.map_map]
  exact List.map_id' _
theorem chainL_is (n : Nat) {l : List UInt8} (h : isL l = true) : isL (chainL n l) = true := by
  cases n with
  | zero => exact h
  | succ n => rw [chainL_succ]; exact sumL_is _
theorem startL_is (s : ByteArray) (i : Nat) : isL (startL s i) = true := sumL_is _
theorem walkL_is (s : ByteArray) (d : Nat → Nat) : (walkL s d).all isL = true := by
  unfold walkL
  rw [List.all_map, List.all_eq_true]
  intro i _
  exact chainL_is _ (startL_is s i)
theorem publicL_is (s : ByteArray) : isL (publicL s) = true := sumL_is _
theorem publicL_len (s : ByteArray) : (publicL s).length = 16 := sumL_len _
theorem signL_len (s : ByteArray) (m : List UInt8) : (signL s m).length = 18 := walkL_len _ _
theorem isL_len {l : List UInt8} (h : isL l = true) : l.length = 16 := by
  unfold isL at h
  rw [Bool.and_eq_true] at h
  exact of_decide_eq_true h.1
theorem digits_getD_le (m : List UInt8) (i : Nat) : (digitsL m).getD i 0 ≤ 15 := by
  rw [List.getD_eq_getElem?_getD]
  rcases h : (digitsL m)[i]? with _ | d
  · simp
  · exact digitsL_le d (List.mem_of_getElem? h)
theorem ends_sign (s : ByteArray) (m : List UInt8) : endsL m (signL s m) = walkL s fun _ => 15 := by
  unfold endsL signL walkL
  refine List.ext_getElem (by simp [digitsL_len]) (fun i h1 h2 => ?_)
  rw [List.getElem_zipWith, List.getElem_map, List.getElem_map, List.getElem_range]
  have hi : i < (digitsL m).length := by rw [List.length_zipWith] at h1; omega
  have hd : (digitsL m).getD i 0 = (digitsL m)[i] := by rw [List.getD_eq_getElem?_getD, List.getElem?_eq_getElem hi]; rfl
  have hle : (digitsL m)[i] ≤ 15 := digitsL_le _ (List.getElem_mem hi)
  show chainL (15 - (digitsL m)[i]) (chainL ((digitsL m).getD i 0) (startL s i)) = chainL 15 (startL s i)
  rw [hd, ← chainL_add, Nat.add_sub_cancel' hle]
/-- What Sign returns is a signature of Public's key. -/
theorem verify_sign (s : ByteArray) (m : List UInt8) : verifyL (publicL s) m (signL s m) = true := by
  unfold verifyL
  rw [ends_sign, signL_len]
  have : (signL s m).all isL = true := walkL_is _ _
  rw [this]
  simp [publicL]

theorem list_mkB (A : Option Addr) (ls : List (List UInt8)) (n cap : Nat) (w : World) (B : Nat) (hn : n = ls.length) (h : Elems tStr w B A (ls.map mkB)) (hB : B ≤ w.heap.size) (hl : n ≤ 1000) (hs : ls.all isL = true) (ht : Tabs w) :
    Calls Tryd.prog 21 #[.slice A n cap] w fun e w' => e = .returned (.string (mkB (listL ls))) ∧ Below w.heap.size w w' := by
  have q := list_anyN A (ls.map mkB) n cap w B (by rw [hn, List.length_map]) h hB hl (fun s hs2 => by
    obtain ⟨l, hl, rfl⟩ := List.mem_map.1 hs2
    have := isL_len (List.all_eq_true.1 hs l hl)
    unfold mkB
    rw [Lib.size_mk]
    omega) ht
  rw [bytes_mkB] at q
  exact q
set_option maxRecDepth 100000 in
set_option maxHeartbeats 1000000 in
theorem public_any (secret : ByteArray) (hsec : secret.size ≤ 1000) (w : World) (ht : Tabs w) :
    Calls Tryd.prog 23 #[.string secret] w fun e w' => e = .returned (.string (mkB (publicL secret))) ∧ Below w.heap.size w w' := by
  have HT := Lib.hid ht
  clear ht
  go_enter Tryd.func23, Tryd.ntmps23
  go_wp2_with (first
    | (go_at_call 45; refine Calls.mono (walk_public secret hsec w HT.out) ?_; rintro e w1 ⟨A, c, rfl, hown, hbel⟩
       have HW := Lib.hid (And.intro hown hbel)
       clear hown hbel)
    | (go_at_call 21; refine Calls.mono (list_mkB A (walkL secret fun _ => 15) 18 c w1 w1.heap.size (by rw [walkL_len]) (HW.out.1.elems (Nat.zero_le _) (Nat.le_refl _)) (Nat.le_refl _) (by decide) (walkL_is _ _) (HT.out.below HW.out.2)) ?_; rintro e w2 ⟨rfl, hbb⟩
       have HB := Lib.hid hbb
       clear hbb))
  go_ret
  exact ⟨rfl, HW.out.2.trans (HB.out.mono HW.out.2.size)⟩

set_option maxRecDepth 100000 in
set_option maxHeartbeats 1000000 in
theorem sign_any (secret m : ByteArray) (hsec : secret.size ≤ 1000) (hm : m.size ≤ 9223372036854775807) (w : World) (ht : Tabs w) :
    Calls Tryd.prog 48 #[.string secret, .string m] w fun e w' => ∃ A c, e = .returned (.slice A 18 c) ∧ OwnL tStr 9 w' w.heap.size 0 (.slice A 18 c) ((signL secret m.data.toList).map mkB) ∧ Below w.heap.size w w' := by
  have HT := Lib.hid ht
  clear ht
  go_enter Tryd.func48, Tryd.ntmps48
  have hlen := digitsL_len m.data.toList
  have hone : (digV (digitsL m.data.toList)).all (·.oneCell') = true := by
    rw [Array.all_eq_true_iff_forall_mem]
    intro u hu
    unfold digV at hu
    rw [List.mem_toArray, List.mem_map] at hu
    obtain ⟨d, _, rfl⟩ := hu
    rfl
  have hcd := fun (X : World) (hx : HexTab X) => digits_any m X hm hx
  have hcw := fun (X : World) (hx : Tabs X) => walk_sign secret hsec X.heap.size (digitsL m.data.toList) (fun i => (digitsL m.data.toList).getD i 0) hlen (fun i hi => by
    have hi : i < (digitsL m.data.toList).length := by omega
    rw [List.getD_eq_getElem?_getD, List.getElem?_eq_getElem hi]
    rfl) (fun i => digits_getD_le _ i) (X.alloc (.cells (digV (digitsL m.data.toList)) 44)) (hx.below (below_self X _)) (Bk.new _ _ _)
  obtain ⟨ds, hds⟩ : ∃ ds, digV (digitsL m.data.toList) = ds := ⟨_, rfl⟩
  have hsz : ds.size = 18 := by rw [← hds, digV_size, hlen]
  rw [hds] at hone hcd hcw
  have HC := Lib.hid (And.intro hcd (And.intro hcw (And.intro hsz hone)))
  clear hcd hcw hds hsz hone hlen
  go_wp2_with (first
    | (go_at_call 18; refine Calls.mono (HC.out.1 w HT.out.1) ?_; rintro e w1 ⟨rfl, hbel⟩; have HW := Lib.hid hbel; clear hbel)
    | (refine list_store_fresh (o := ⟨none, .store 44 _ _, _, _, _, _⟩) rfl _ _ _ rfl ds rfl rfl (by rw [HC.out.2.2.1]; kernel_rfl) (by rw [HC.out.2.2.1]; rfl) HC.out.2.2.2 ?_)
    | (go_at_call 45; refine Calls.mono (HC.out.2.1 w1 (HT.out.below HW.out)) ?_; rintro e w2 ⟨A, c, rfl, hown, hbel⟩
       have H2 := Lib.hid (And.intro hown hbel)
       clear hown hbel))
  go_ret
  have hz := HW.out.size
  refine ⟨A, c, rfl, H2.out.1.rebase (by simp; omega), ?_⟩
  exact (HW.out.trans ((below_self w1 _).mono hz)).trans (H2.out.2.mono (by simp; omega))
end Go.Proofs.YtojkpoikamcgkaaDoor
