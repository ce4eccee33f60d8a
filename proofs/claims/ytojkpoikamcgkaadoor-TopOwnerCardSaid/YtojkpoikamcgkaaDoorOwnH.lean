/- Layer 30 (title): readers; Few, Owner, used. -/
import Derived.Test.YtojkpoikamcgkaaDoorOwnG
import Derived.LoopN
namespace Go.Proofs.YtojkpoikamcgkaaDoor
open Go.RowKit
set_option linter.unusedVariables false
set_option linter.unusedSimpArgs false
attribute [local go_sem] ext_cell ext_frozen lt_ext ext_drew

abbrev Tr := ByteArray × List ByteArray
abbrev tTr : Ty Tr := tPair tStr (tSlice tStr)
theorem pick_tr {w : World} {B : Nat} {A : Option Addr} {ch : List Tr} (h : Elems tTr w B A ch) {k : Nat} (hk : k < ch.length) :
    ∃ b off tk AS ss cs, A = some ⟨b, off, none⟩ ∧ b < B ∧ Hid (ch[k]? = some (tk, ss)) ∧ w.cell? ⟨b, off + k * 2, none⟩ = some (.string tk) ∧ w.cell? ⟨b, off + k * 2 + 1, none⟩ = some (.slice AS ss.length cs) ∧
      tk.size ≤ 9223372036854775807 ∧ ss.length ≤ 9223372036854775807 ∧ Hid (ss.length ≤ cs ∧ cs ≤ maxLen ∧ Elems tStr w B AS ss) := by
  obtain ⟨b, off, ⟨tk, ss⟩, cs, hA, hb, _, hx, _, ⟨c1, c2, rfl, ⟨rfl, h1⟩, ⟨AS, cs2, rfl, h2, h3, h4⟩⟩, hc⟩ := h.pick hk
  have h2' : ss.length ≤ cs2 := h2
  have h1' : tk.size ≤ maxLen := h1
  unfold maxLen at h1'
  exact ⟨b, off, tk, AS, ss, cs2, hA, hb, hx, hc 0 _ rfl, hc 1 _ rfl, by omega, by unfold maxLen at h3; omega, h2', h3, h4⟩
theorem pick_str {w : World} {B : Nat} {A : Option Addr} {ss : List ByteArray} (h : Elems tStr w B A ss) {k : Nat} (hk : k < ss.length) :
    ∃ b off s, A = some ⟨b, off, none⟩ ∧ b < B ∧ Hid (ss[k]? = some s) ∧ w.cell? ⟨b, off + k, none⟩ = some (.string s) ∧ s.size ≤ 9223372036854775807 := by
  obtain ⟨b, off, s, cs, hA, hb, _, hx, _, ⟨rfl, h1⟩, hc⟩ := h.pick hk
  have h1' : s.size ≤ maxLen := h1
  unfold maxLen at h1'
  exact ⟨b, off, s, hA, hb, hx, by simpa [tStr] using hc 0 _ rfl, by omega⟩

def fewS (n : Nat) (ss : List ByteArray) : Bool := ss.all fun s => decide (s.size ≤ n)
def fewX (x : Tr) : Bool := decide (x.2.length ≤ 20) && decide (x.1.size ≤ 40) && fewS 40 x.2
def fewT (most : Nat) (fi : ByteArray) (ch : List Tr) : Bool := decide (ch.length ≤ most) && decide (fi.size ≤ 40) && ch.all fewX
set_option maxRecDepth 100000 in
set_option maxHeartbeats 1000000 in
theorem fewS_any (n : Nat) (A : Option Addr) (ss : List ByteArray) (cap : Nat) (w : World) (B : Nat) (h : Elems tStr w B A ss) (hB : B ≤ w.heap.size) (hl : ss.length ≤ 9223372036854775807) (hn : n ≤ 9223372036854775807) :
    Calls Tryd.prog 6 #[.slice A ss.length cap, .int .i64 n] w fun e w' => e = .returned (.bool (fewS n ss && decide (ss.length ≤ 30))) ∧ w' = w := by
  obtain ⟨r, hr⟩ : ∃ r, (fewS n ss && decide (ss.length ≤ 30)) = r := ⟨_, rfl⟩
  rw [hr]
  have Hr := Lib.hid hr
  clear hr
  have HH := Lib.hid h
  clear h
  go_enter Tryd.func6, Tryd.ntmps6
  go_wp2_with fail
  go_loop [5] (fun i => ∃ k : Nat, k ≤ ss.length ∧ i = .int .i64 k ∧ fewS n (ss.take k) = true) (fun i => ss.length - (intOf i).toNat)
  case atStart => exact ⟨0, by omega, rfl, rfl⟩
  case round =>
    obtain ⟨k, hk, rfl, hall⟩ := hrel
    by_cases hlt : k < ss.length
    · obtain ⟨b, off, s, rfl, hb, Hk, c0, hs⟩ := pick_str HH.out hlt
      have hkl : (k : Int) < (ss.length : Int) := by omega
      have bw : b < w.heap.size := by omega
      have hat := all_takeO (fun s => decide (s.size ≤ n)) Hk.out
      have hall' : (ss.take k).all (fun s => decide (s.size ≤ n)) = true := hall
      rw [hall', Bool.true_and] at hat
      by_cases h8 : s.size ≤ n
      · have h8' : ¬ (n : Int) < (s.size : Int) := by omega
        have H2 := Lib.hid (show fewS n (ss.take (k + 1)) = true by unfold fewS; rw [hat]; simpa using h8)
        clear hat hall hall'
        go_wp2_with fail
        go_round
        case rel => exact ⟨k + 1, by omega, by go_num, H2.out⟩
        case measure => simp [intOf]; omega
      · have h8' : (n : Int) < (s.size : Int) := by omega
        have H3 := Lib.hid (show fewS n ss = false by unfold fewS; exact all_badO Hk.out (by simpa using h8))
        clear hat hall hall'
        go_wp2_with fail
        go_ret
        exact ⟨by rw [← Hr.out, H3.out, Bool.false_and]; rfl, rfl⟩
    · obtain rfl : k = ss.length := by omega
      rw [List.take_length] at hall
      have H2 := Lib.hid hall
      clear hall
      by_cases h30 : ss.length ≤ 30
      · have h30' : (ss.length : Int) ≤ 30 := by omega
        go_wp2_with fail
        go_ret
        exact ⟨by rw [← Hr.out, H2.out]; simp [h30], rfl⟩
      · have h30' : ¬ (ss.length : Int) ≤ 30 := by omega
        go_wp2_with fail
        go_ret
        exact ⟨by rw [← Hr.out]; simp [h30], rfl⟩
set_option maxRecDepth 100000 in
set_option maxHeartbeats 2000000 in
theorem fewT_any (most : Nat) (se sh pl : Int) (fi : ByteArray) (A : Option Addr) (ch : List Tr) (cap : Nat) (w : World) (B : Nat) (h : Elems tTr w B A ch) (hB : B ≤ w.heap.size) (hl : ch.length ≤ 9223372036854775807) (hf : fi.size ≤ 9223372036854775807) (hn : most ≤ 9223372036854775807) :
    Calls Tryd.prog 5 #[.agg #[.int .i64 se, .int .i64 sh, .int .i64 pl, .string fi, .slice A ch.length cap], .int .i64 most] w fun e w' => e = .returned (.bool (fewT most fi ch)) ∧ Below w.heap.size w w' := by
  obtain ⟨r, hr⟩ : ∃ r, fewT most fi ch = r := ⟨_, rfl⟩
  rw [hr]
  have Hr := Lib.hid hr
  clear hr
  have hB1 : Below w.heap.size w (w.alloc (.cells #[.int .i64 se, .int .i64 sh, .int .i64 pl, .string fi, .slice A ch.length cap] 24)) := below_self w _
  have HH := Lib.hid (h.keep (hB1.mono hB) (Nat.le_refl _))
  have HB1 := Lib.hid hB1
  have b0 : Bk (w.alloc (.cells #[.int .i64 se, .int .i64 sh, .int .i64 pl, .string fi, .slice A ch.length cap] 24)) w.heap.size #[.int .i64 se, .int .i64 sh, .int .i64 pl, .string fi, .slice A ch.length cap] 24 := Bk.new _ _ _
  have hsz : w.heap.size < (w.alloc (.cells #[.int .i64 se, .int .i64 sh, .int .i64 pl, .string fi, .slice A ch.length cap] 24)).heap.size := by simp
  clear h hB1
  go_enter Tryd.func5, Tryd.ntmps5
  by_cases h1 : ch.length ≤ most
  case neg =>
    have h1' : (most : Int) < (ch.length : Int) := by omega
    go_wp2_with fail
    go_ret
    exact ⟨by rw [← Hr.out]; unfold fewT; simp [h1], HB1.out⟩
  have h1' : ¬ (most : Int) < (ch.length : Int) := by omega
  by_cases h2 : fi.size ≤ 40
  case neg =>
    have h2' : 40 < (fi.size : Int) := by omega
    go_wp2_with fail
    go_ret
    exact ⟨by rw [← Hr.out]; unfold fewT; simp [h2], HB1.out⟩
  have h2' : ¬ 40 < (fi.size : Int) := by omega
  go_wp2_with fail
  generalize w.alloc (.cells #[.int .i64 se, .int .i64 sh, .int .i64 pl, .string fi, .slice A ch.length cap] 24) = W at *
  have c4 : W.cell? ⟨w.heap.size, 4, none⟩ = some (.slice A ch.length cap) := b0.cell 4
  go_loop [5, 6] (fun i _ => ∃ k : Nat, k ≤ ch.length ∧ i = .int .i64 k ∧ (ch.take k).all fewX = true) (fun i _ => ch.length - (intOf i).toNat)
  case atStart => exact ⟨0, by omega, rfl, rfl⟩
  case round =>
    obtain ⟨k, hk, rfl, hall⟩ := hrel
    by_cases hlt : k < ch.length
    · as_aux_lemma =>
      obtain ⟨b, off, tk, AS, ss, cs, rfl, hb, Hk, d0, d1, ht, hs, HE⟩ := pick_tr HH.out hlt
      have hkl : (k : Int) < (ch.length : Int) := by omega
      have bw : b < W.heap.size := by omega
      have hat := all_takeO fewX Hk.out
      rw [hall, Bool.true_and] at hat
      have Hat := Lib.hid hat
      clear hat hall
      by_cases h3 : ss.length ≤ 20
      case neg =>
        have h3' : 20 < (ss.length : Int) := by omega
        go_wp2_with fail
        go_ret
        exact ⟨by rw [← Hr.out]; unfold fewT; rw [all_badO Hk.out (by unfold fewX; simp [h3])]; simp, HB1.out⟩
      have h3' : ¬ 20 < (ss.length : Int) := by omega
      by_cases h4 : tk.size ≤ 40
      case neg =>
        have h4' : 40 < (tk.size : Int) := by omega
        go_wp2_with fail
        go_ret
        exact ⟨by rw [← Hr.out]; unfold fewT; rw [all_badO Hk.out (by unfold fewX; simp [h4])]; simp, HB1.out⟩
      have h4' : ¬ 40 < (tk.size : Int) := by omega
      go_wp2_with fail
      go_loop [6] (fun i => ∃ j : Nat, j ≤ ss.length ∧ i = .int .i64 j ∧ fewS 40 (ss.take j) = true) (fun i => ss.length - (intOf i).toNat)
      case atStart => exact ⟨0, by omega, rfl, rfl⟩
      case round =>
        obtain ⟨j, hj, rfl, hall⟩ := hrel
        by_cases hlj : j < ss.length
        · obtain ⟨b2, off2, s, rfl, hb2, Hj, e0, hsz2⟩ := pick_str HE.out.2.2 hlj
          have hjl : (j : Int) < (ss.length : Int) := by omega
          have bw2 : b2 < W.heap.size := by omega
          have hat := all_takeO (fun s => decide (s.size ≤ 40)) Hj.out
          have hall' : (ss.take j).all (fun s => decide (s.size ≤ 40)) = true := hall
          rw [hall', Bool.true_and] at hat
          by_cases h8 : s.size ≤ 40
          · have h8' : ¬ 40 < (s.size : Int) := by omega
            have H2 := Lib.hid (show fewS 40 (ss.take (j + 1)) = true by unfold fewS; rw [hat]; simpa using h8)
            clear hat hall hall'
            go_wp2_with fail
            go_round
            case rel => exact ⟨j + 1, by omega, by go_num, H2.out⟩
            case measure => simp [intOf]; omega
          · have h8' : 40 < (s.size : Int) := by omega
            have H5 := Lib.hid (show fewS 40 ss = false by unfold fewS; exact all_badO Hj.out (by simpa using h8))
            clear hat hall hall'
            go_wp2_with fail
            go_ret
            exact ⟨by rw [← Hr.out]; unfold fewT; rw [all_badO Hk.out (by unfold fewX; rw [H5.out, Bool.and_false])]; simp, HB1.out⟩
        · obtain rfl : j = ss.length := by omega
          rw [List.take_length] at hall
          have H2 := Lib.hid (show (ch.take (k + 1)).all fewX = true by rw [Hat.out]; unfold fewX; rw [hall]; simp [h3, h4])
          clear hall
          go_wp2_with fail
          go_round
          case rel => exact ⟨k + 1, by omega, by go_num, H2.out⟩
          case measure => simp [intOf]; omega
    · obtain rfl : k = ch.length := by omega
      rw [List.take_length] at hall
      have H2 := Lib.hid (show fewT most fi ch = true by unfold fewT; rw [hall]; simp [h1, h2])
      clear hall
      go_wp2_with fail
      go_ret
      exact ⟨by rw [← Hr.out, H2.out]; rfl, HB1.out⟩

/-- The key of the present owner. -/
def ownerL (fi : ByteArray) (ch : List Tr) : ByteArray := match ch.getLast? with | some x => x.1 | none => fi
set_option maxRecDepth 100000 in
set_option maxHeartbeats 1000000 in
theorem owner_any (se sh pl : Int) (fi : ByteArray) (A : Option Addr) (ch : List Tr) (cap : Nat) (w : World) (B : Nat) (h : Elems tTr w B A ch) (hB : B ≤ w.heap.size) (hl : ch.length ≤ 9223372036854775807) :
    Calls Tryd.prog 9 #[.agg #[.int .i64 se, .int .i64 sh, .int .i64 pl, .string fi, .slice A ch.length cap]] w fun e w' => e = .returned (.string (ownerL fi ch)) ∧ Below w.heap.size w w' := by
  have hB1 : Below w.heap.size w (w.alloc (.cells #[.int .i64 se, .int .i64 sh, .int .i64 pl, .string fi, .slice A ch.length cap] 24)) := below_self w _
  have HH := Lib.hid (h.keep (hB1.mono hB) (Nat.le_refl _))
  have HB1 := Lib.hid hB1
  clear h hB1
  go_enter Tryd.func9, Tryd.ntmps9
  by_cases h0 : 0 < ch.length
  · have h0' : 0 < (ch.length : Int) := by omega
    obtain ⟨b, off, tk, AS, ss, cs, rfl, hb, Hk, d0, d1, ht, hs, HE⟩ := pick_tr HH.out (k := ch.length - 1) (by omega)
    have bw : b < w.heap.size := by omega
    have hown : ownerL fi ch = tk := by
      unfold ownerL
      rw [List.getLast?_eq_getElem?, Hk.out]
    have Hown := Lib.hid hown
    clear hown d1
    have hi1 : (ch.length : Int) - 1 = ((ch.length - 1 : Nat) : Int) := by omega
    have hi2 : ((ch.length - 1 : Nat) : Int) < (ch.length : Int) := by omega
    go_wp2_with fail
    go_ret
    exact ⟨by rw [Hown.out]; rfl, HB1.out⟩
  · obtain rfl : ch = [] := List.eq_nil_of_length_eq_zero (by omega)
    go_wp2_with fail
    go_ret
    exact ⟨rfl, HB1.out⟩
end Go.Proofs.YtojkpoikamcgkaaDoor
