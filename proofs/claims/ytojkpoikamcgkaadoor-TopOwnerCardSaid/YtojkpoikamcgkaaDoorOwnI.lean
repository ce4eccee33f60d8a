/- Layer 30 (title): what holds for the elements; Cut, used. -/
import Derived.Test.YtojkpoikamcgkaaDoorOwnH
namespace Go.Proofs.YtojkpoikamcgkaaDoor
open Go.RowKit
set_option linter.unusedVariables false
set_option linter.unusedSimpArgs false
attribute [local go_sem] ext_cell ext_frozen lt_ext ext_drew

set_option maxRecDepth 100000 in
set_option maxHeartbeats 1000000 in
theorem cut_any (n : Nat) (se sh pl : Int) (fi : ByteArray) (A : Option Addr) (ch : List Tr) (cap : Nat) (w : World) (hn : n ≤ ch.length) (hc : ch.length ≤ cap) (hl : cap ≤ maxLen) :
    Calls Tryd.prog 11 #[.agg #[.int .i64 se, .int .i64 sh, .int .i64 pl, .string fi, .slice A ch.length cap], .int .i64 n] w fun e w' => e = .returned (.agg #[.int .i64 se, .int .i64 sh, .int .i64 pl, .string fi, .slice A n cap]) ∧ Below w.heap.size w w' := by
  unfold maxLen at hl
  have h1 : (n : Int) ≤ (cap : Int) := by omega
  have h2 : (0 : Int) ≤ (n : Int) := by omega
  have h3 : n ≤ cap := by omega
  go_enter Tryd.func11, Tryd.ntmps11
  go_wp2_with fail
  refine bodyPost_ret (v := .agg #[.int .i64 se, .int .i64 sh, .int .i64 pl, .string fi, .slice A n cap]) (results_cell Tryd.results11 (p := ⟨w.heap.size + 1, 0, none⟩) rfl (run_loadVar_at (b := w.heap.size + 1) (off := 0) (cs := #[.int .i64 se, .int .i64 sh, .int .i64 pl, .string fi, .slice A n cap]) (fun j u h => by rw [Nat.zero_add, (bk_next w (.cells #[.int .i64 se, .int .i64 sh, .int .i64 pl, .string fi, .slice A n cap] 24) #[.int .i64 se, .int .i64 sh, .int .i64 pl, .string fi, .slice A n cap] 24).cell]; exact h) Tryd.underlying24 rfl (by kernel_rfl))) rfl ⟨rfl, by (repeat (first | with_reducible exact Below.refl _ _ | with_reducible assumption | with_reducible refine Below.alloc0 ?_ _ | with_reducible refine Below.ext0 ?_ _ | with_reducible refine Below.drew ?_ | with_reducible refine below_drewN ?_ _ | (with_reducible refine Below.setCell (hp := ?hp) ?_ _; case hp => (first | (simp; done) | (simp; omega)))))⟩

set_option maxRecDepth 100000 in
set_option maxHeartbeats 1000000 in
theorem formed1_any (s : ByteArray) (w : World) (hs : s.size ≤ 9223372036854775807) :
    Calls Tryd.prog 35 #[.string s] w fun e w' => e = .returned (.bool (!isL s.data.toList)) ∧ Below w.heap.size w w' := by
  go_enter Tryd.func35, Tryd.ntmps35
  go_wp2_with (go_at_call 19; refine (is_any s _ hs).mono ?_; rintro e w2 ⟨rfl, z1⟩; have HZ := Lib.hid z1; clear z1)
  go_ret
  exact ⟨rfl, HZ.out⟩
def noneL (ss : List ByteArray) : Bool := ss.all fun s => isL s.data.toList
set_option maxRecDepth 100000 in
set_option maxHeartbeats 1000000 in
theorem index_bad (A : Option Addr) (ss : List ByteArray) (cap : Nat) (w : World) (B : Nat) (h : Elems tStr w B A ss) (hB : B ≤ w.heap.size) (hl : ss.length ≤ 9223372036854775807) :
    Calls Tryd.prog 52 #[.slice A ss.length cap, .func (.func 35) #[] #[]] w fun e w' => ∃ r : Int, e = .returned (.int .i64 r) ∧ Below w.heap.size w w' ∧ decide (0 ≤ r) = !noneL ss := by
  have HH := Lib.hid h
  clear h
  go_enter Tryd.func52, Tryd.ntmps52
  go_wp2_with fail
  go_loopw [5, 8] (fun _ i wr => ∃ k : Nat, k ≤ ss.length ∧ i = .int .i64 k ∧ noneL (ss.take k) = true ∧ Below w.heap.size w wr) (fun _ i _ => ss.length - (intOf i).toNat)
  case atStart => exact ⟨0, by omega, rfl, rfl, Below.refl _ _⟩
  case round =>
    obtain ⟨k, hk, rfl, hall, hlow⟩ := hrel
    generalize wr = wA at *
    have hz := hlow.size
    by_cases hlt : k < ss.length
    · obtain ⟨b, off, s, rfl, hb, Hk, c0, hs⟩ := pick_str (HH.out.keep (hlow.mono hB) (Nat.le_refl _)) hlt
      have hkl : (k : Int) < (ss.length : Int) := by omega
      have bw : b < wA.heap.size := by omega
      have hat := all_takeO (fun s : ByteArray => isL s.data.toList) Hk.out
      have hall' : (ss.take k).all (fun s => isL s.data.toList) = true := hall
      rw [hall', Bool.true_and] at hat
      have hf := fun (X : World) => formed1_any s X hs
      have HA := Lib.hid hlow
      cases hi : isL s.data.toList with
      | true =>
        rw [hi] at hf
        have H2 := Lib.hid (And.intro (show noneL (ss.take (k + 1)) = true by unfold noneL; rw [hat]; exact hi) hf)
        clear hat hall hall' hi hlow hf
        go_wp2_with (go_at_call 35; refine (H2.out.2 _).mono ?_; rintro e w2 ⟨rfl, z1⟩; have HZ := Lib.hid z1; clear z1)
        go_roundw
        case rel => exact ⟨k + 1, by omega, by go_num, H2.out.1, HA.out.trans (HZ.out.mono hz)⟩
        case measure => simp [intOf]; omega
      | false =>
        rw [hi] at hf
        have H3 := Lib.hid (And.intro (show noneL ss = false by unfold noneL; exact all_badO Hk.out hi) hf)
        clear hat hall hall' hi hlow hf
        go_wp2_with (go_at_call 35; refine (H3.out.2 _).mono ?_; rintro e w2 ⟨rfl, z1⟩; have HZ := Lib.hid z1; clear z1)
        refine bodyPost_ret (v := .int .i64 k) (results_tmp Tryd.results52 _ _ _) rfl ⟨k, rfl, HA.out.trans (HZ.out.mono hz), ?_⟩
        rw [H3.out.1]
        simp
    · obtain rfl : k = ss.length := by omega
      rw [List.take_length] at hall
      have H2 := Lib.hid (And.intro hall hlow)
      clear hall hlow
      go_wp2_with fail
      refine bodyPost_ret (v := .int .i64 (-1)) (results_tmp Tryd.results52 _ _ _) rfl ⟨-1, rfl, H2.out.2, ?_⟩
      rw [H2.out.1]
      rfl
set_option maxRecDepth 100000 in
set_option maxHeartbeats 1000000 in
theorem contains_bad (A : Option Addr) (ss : List ByteArray) (cap : Nat) (w : World) (B : Nat) (h : Elems tStr w B A ss) (hB : B ≤ w.heap.size) (hl : ss.length ≤ 9223372036854775807) :
    Calls Tryd.prog 34 #[.slice A ss.length cap, .func (.func 35) #[] #[]] w fun e w' => e = .returned (.bool (!noneL ss)) ∧ Below w.heap.size w w' := by
  have HH := Lib.hid h
  clear h
  go_enter Tryd.func34, Tryd.ntmps34
  go_wp2_with (go_at_call 52; refine (index_bad A ss cap _ B HH.out hB hl).mono ?_; rintro e w2 ⟨r, rfl, z1, z2⟩; have HZ := Lib.hid (And.intro z1 z2); clear z1 z2)
  go_ret
  exact ⟨by rw [← HZ.out.2]; rfl, HZ.out.1⟩
/-- Whether a key was an owner. -/
def usedB (fi : ByteArray) (ch : List Tr) (key : ByteArray) : Bool := (fi.toList == key.toList) || !ch.all fun x => !(x.1.toList == key.toList)
set_option maxRecDepth 100000 in
set_option maxHeartbeats 1000000 in
theorem used1_any (x : ByteArray) (v : Value) (key : ByteArray) (b : Nat) (w : World) (hk : w.cell? ⟨b, 0, none⟩ = some (.string key)) (hb : b < w.heap.size) :
    Calls Tryd.prog 38 #[.agg #[.string x, v], .pointer (some ⟨b, 0, none⟩)] w fun e w' => e = .returned (.bool (x.toList == key.toList)) ∧ Below w.heap.size w w' := by
  go_enter Tryd.func38, Tryd.ntmps38
  go_wp2_with fail
  go_ret
  exact ⟨rfl, below_self _ _⟩
def freeL (key : ByteArray) (ch : List Tr) : Bool := ch.all fun x => !(x.1.toList == key.toList)
set_option maxRecDepth 100000 in
set_option maxHeartbeats 1000000 in
theorem index_used (key : ByteArray) (kb : Nat) (A : Option Addr) (ch : List Tr) (cap : Nat) (w : World) (B : Nat) (h : Elems tTr w B A ch) (hB : B ≤ w.heap.size) (hl : ch.length ≤ 9223372036854775807) (hkey : Bk w kb #[.string key] 9) :
    Calls Tryd.prog 53 #[.slice A ch.length cap, .func (.func 38) #[] #[.pointer (some ⟨kb, 0, none⟩)]] w fun e w' => ∃ r : Int, e = .returned (.int .i64 r) ∧ Below w.heap.size w w' ∧ decide (0 ≤ r) = !freeL key ch := by
  have HH := Lib.hid (And.intro h hkey)
  clear h hkey
  go_enter Tryd.func53, Tryd.ntmps53
  go_wp2_with fail
  go_loopw [5, 8] (fun _ i wr => ∃ k : Nat, k ≤ ch.length ∧ i = .int .i64 k ∧ freeL key (ch.take k) = true ∧ Below w.heap.size w wr) (fun _ i _ => ch.length - (intOf i).toNat)
  case atStart => exact ⟨0, by omega, rfl, rfl, Below.refl _ _⟩
  case round =>
    obtain ⟨k, hk, rfl, hall, hlow⟩ := hrel
    generalize wr = wA at *
    have hz := hlow.size
    by_cases hlt : k < ch.length
    · obtain ⟨b, off, tk, AS, ss, cs, rfl, hb, Hk, d0, d1, ht, hs, HE⟩ := pick_tr (HH.out.1.keep (hlow.mono hB) (Nat.le_refl _)) hlt
      have hkl : (k : Int) < (ch.length : Int) := by omega
      have bw : b < wA.heap.size := by omega
      have hat := all_takeO (fun x : Tr => !(x.1.toList == key.toList)) Hk.out
      have hall' : (ch.take k).all (fun x : Tr => !(x.1.toList == key.toList)) = true := hall
      rw [hall', Bool.true_and] at hat
      have bk := HH.out.2.below hlow
      have hf := used1_any tk (.slice AS ss.length cs) key kb wA (bk.cell 0) bk.lt
      have HA := Lib.hid hlow
      cases hi : (tk.toList == key.toList) with
      | true =>
        rw [hi] at hf
        have H3 := Lib.hid (And.intro (show freeL key ch = false by unfold freeL; exact all_badO Hk.out (by simp only [hi]; rfl)) hf)
        clear hat hall hall' hi hlow hf bk
        go_wp2_with (go_at_call 38; refine H3.out.2.mono ?_; rintro e w2 ⟨rfl, z1⟩; have HZ := Lib.hid z1; clear z1)
        refine bodyPost_ret (v := .int .i64 k) (results_tmp Tryd.results53 _ _ _) rfl ⟨k, rfl, HA.out.trans (HZ.out.mono hz), ?_⟩
        rw [H3.out.1]
        simp
      | false =>
        rw [hi] at hf
        have H2 := Lib.hid (And.intro (show freeL key (ch.take (k + 1)) = true by unfold freeL; rw [hat]; simp only [hi]; rfl) hf)
        clear hat hall hall' hi hlow hf bk
        go_wp2_with (go_at_call 38; refine H2.out.2.mono ?_; rintro e w2 ⟨rfl, z1⟩; have HZ := Lib.hid z1; clear z1)
        go_roundw
        case rel => exact ⟨k + 1, by omega, by go_num, H2.out.1, HA.out.trans (HZ.out.mono hz)⟩
        case measure => simp [intOf]; omega
    · obtain rfl : k = ch.length := by omega
      rw [List.take_length] at hall
      have H2 := Lib.hid (And.intro hall hlow)
      clear hall hlow
      go_wp2_with fail
      refine bodyPost_ret (v := .int .i64 (-1)) (results_tmp Tryd.results53 _ _ _) rfl ⟨-1, rfl, H2.out.2, ?_⟩
      rw [H2.out.1]
      rfl
set_option maxRecDepth 100000 in
set_option maxHeartbeats 1000000 in
theorem contains_used (key : ByteArray) (kb : Nat) (A : Option Addr) (ch : List Tr) (cap : Nat) (w : World) (B : Nat) (h : Elems tTr w B A ch) (hB : B ≤ w.heap.size) (hl : ch.length ≤ 9223372036854775807) (hkey : Bk w kb #[.string key] 9) :
    Calls Tryd.prog 37 #[.slice A ch.length cap, .func (.func 38) #[] #[.pointer (some ⟨kb, 0, none⟩)]] w fun e w' => e = .returned (.bool (!freeL key ch)) ∧ Below w.heap.size w w' := by
  have HH := Lib.hid (And.intro h hkey)
  clear h hkey
  go_enter Tryd.func37, Tryd.ntmps37
  go_wp2_with (go_at_call 53; refine (index_used key kb A ch cap _ B HH.out.1 hB hl HH.out.2).mono ?_; rintro e w2 ⟨r, rfl, z1, z2⟩; have HZ := Lib.hid (And.intro z1 z2); clear z1 z2)
  go_ret
  exact ⟨by rw [← HZ.out.2]; rfl, HZ.out.1⟩
set_option maxRecDepth 100000 in
set_option maxHeartbeats 1000000 in
theorem used_any (key : ByteArray) (se sh pl : Int) (fi : ByteArray) (A : Option Addr) (ch : List Tr) (cap : Nat) (w : World) (B : Nat) (h : Elems tTr w B A ch) (hB : B ≤ w.heap.size) (hl : ch.length ≤ 9223372036854775807) :
    Calls Tryd.prog 17 #[.agg #[.int .i64 se, .int .i64 sh, .int .i64 pl, .string fi, .slice A ch.length cap], .string key] w fun e w' => e = .returned (.bool (usedB fi ch key)) ∧ Below w.heap.size w w' := by
  have hB1 : Below w.heap.size w ((w.alloc (.cells #[.int .i64 se, .int .i64 sh, .int .i64 pl, .string fi, .slice A ch.length cap] 24)).alloc (.cells #[.string key] 9)) := by (repeat (first | with_reducible exact Below.refl _ _ | with_reducible assumption | with_reducible refine Below.alloc0 ?_ _ | with_reducible refine Below.ext0 ?_ _ | with_reducible refine Below.drew ?_ | with_reducible refine below_drewN ?_ _ | (with_reducible refine Below.setCell (hp := ?hp) ?_ _; case hp => (first | (simp; done) | (simp; omega)))))
  have hk9 : Bk ((w.alloc (.cells #[.int .i64 se, .int .i64 sh, .int .i64 pl, .string fi, .slice A ch.length cap] 24)).alloc (.cells #[.string key] 9)) (w.heap.size + 1) #[.string key] 9 := bk_next w _ _ _
  have HH := Lib.hid (And.intro (h.keep (hB1.mono hB) (Nat.le_refl _)) (And.intro hB1 hk9))
  clear h hB1 hk9
  go_enter Tryd.func17, Tryd.ntmps17
  cases he : (fi.toList == key.toList) with
  | true =>
    go_wp2_with fail
    go_ret
    exact ⟨by unfold usedB; simp [he], HH.out.2.1⟩
  | false =>
    go_wp2_with (go_at_call 37; refine (contains_used key (w.heap.size + 1) A ch cap _ B HH.out.1 (by simp; omega) hl HH.out.2.2).mono ?_; rintro e w2 ⟨rfl, z1⟩; have HZ := Lib.hid z1; clear z1)
    go_ret
    exact ⟨by unfold usedB; rw [he]; rfl, HH.out.2.1.trans (HZ.out.mono (by simp; omega))⟩
end Go.Proofs.YtojkpoikamcgkaaDoor
