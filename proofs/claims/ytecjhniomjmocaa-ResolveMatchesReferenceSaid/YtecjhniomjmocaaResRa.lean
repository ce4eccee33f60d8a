/- Layer 12 (resolve), the reference: the index of a name; the number of an attribute. -/
import Derived.Test.YtecjhniomjmocaaResW
namespace Go.Proofs.Ytecjhniomjmocaa
open Go.RowKit Go.ChangeAt
set_option linter.unusedVariables false
set_option linter.unusedSimpArgs false
attribute [local go_sem] ext_cell ext_frozen lt_ext ext_drew

def idxI (s : ByteArray) (l : List ByteArray) : Int := ((idxB s l).map fun (n : Nat) => (n : Int)).getD (-1)
theorem idxB_none {s x : ByteArray} : ∀ {l : List ByteArray} {k : Nat}, idxB s (l.take k) = none → l[k]? = some x → (s = x → idxB s l = some k) ∧ (s ≠ x → idxB s (l.take (k + 1)) = none)
  | [], k, _, h => by simp at h
  | y :: l, 0, _, h => by
    simp at h
    subst h
    refine ⟨fun e => ?_, fun e => ?_⟩
    · unfold idxB; rw [if_pos e]
    · simp [idxB, e]
  | y :: l, k + 1, hn, h => by
    simp only [List.take_succ_cons, idxB] at hn
    by_cases e : s = y
    · rw [if_pos e] at hn; cases hn
    · rw [if_neg e] at hn
      have hn' : idxB s (l.take k) = none := by simpa using hn
      obtain ⟨h1, h2⟩ := idxB_none hn' (by simpa using h)
      refine ⟨fun e2 => ?_, fun e2 => ?_⟩
      · unfold idxB; rw [if_neg e, h1 e2]; rfl
      · rw [List.take_succ_cons]
        unfold idxB
        rw [if_neg e, h2 e2]
        rfl
theorem pick_st {w : World} {B : Nat} {A : Option Addr} {xs : List ByteArray} (h : Elems tStr w B A xs) {k : Nat} (hk : k < xs.length) :
    ∃ b off x, A = some ⟨b, off, none⟩ ∧ b < B ∧ Hid (xs[k]? = some x) ∧ w.cell? ⟨b, off + k, none⟩ = some (.string x) := by
  obtain ⟨b, off, x, cs, hA, hb, _, hx, _, ⟨rfl, _⟩, hc⟩ := h.pick hk
  exact ⟨b, off, x, hA, hb, hx, by have := hc 0 _ rfl; simpa [show tStr.n = 1 from rfl] using this⟩
set_option maxRecDepth 100000 in
set_option maxHeartbeats 1000000 in
theorem idx_any (A : Option Addr) (l : List ByteArray) (n cap : Nat) (s : ByteArray) (w : World) (B : Nat) (h : Elems tStr w B A l) (hB : B ≤ w.heap.size) (hn : l.length = n) (hl : l.length ≤ 9223372036854775807) :
    Calls Try.prog 48 #[.slice A n cap, .string s] w fun e w' => e = .returned (.int .i64 (idxI s l)) ∧ w = w' := by
  subst hn
  have HH := Lib.hid h
  clear h
  go_enter Try.func48, Try.ntmps48
  go_wp2_with fail
  go_loop [5] (fun i => ∃ k : Nat, k ≤ l.length ∧ i = .int .i64 k ∧ idxB s (l.take k) = none) (fun i => l.length - (intOf i).toNat)
  case atStart => exact ⟨0, by omega, rfl, rfl⟩
  case round =>
    obtain ⟨k, hk, rfl, hnone⟩ := hrel
    by_cases hlt : k < l.length
    · obtain ⟨b, off, x, rfl, hb, Hk, c0⟩ := pick_st HH.out hlt
      have hkl : (k : Int) < (l.length : Int) := by omega
      have bw : b < w.heap.size := by omega
      have Hst := Lib.hid (idxB_none hnone Hk.out)
      clear hnone
      by_cases he : s = x
      · subst he
        have H2 := Lib.hid (show idxI s l = k by unfold idxI; rw [Hst.out.1 rfl]; rfl)
        go_wp2_with fail
        go_ret
        exact ⟨ret_int H2.out.symm, rfl⟩
      · have hq : (x.toList == s.toList) = false := bytes_ne (fun e => he e.symm)
        have H2 := Lib.hid (Hst.out.2 he)
        clear he
        go_wp2_with fail
        go_round
        case rel => exact ⟨k + 1, by omega, by go_num, H2.out⟩
        case measure => simp [intOf]; omega
    · obtain rfl : k = l.length := by omega
      rw [List.take_length] at hnone
      have H2 := Lib.hid (show idxI s l = -1 by unfold idxI; rw [hnone]; rfl)
      clear hnone
      go_wp2_with fail
      go_ret
      exact ⟨ret_int H2.out.symm, rfl⟩
theorem str_flat : ∀ l : List ByteArray, l.map Value.string = (l.map fun s => [Value.string s]).flatten
  | [] => rfl
  | a :: l => by
    rw [List.map_cons, List.map_cons, List.flatten_cons, ← str_flat l]
    rfl
theorem st_lit {w : World} {b t : Nat} {l : List ByteArray} (h : Bk w b (l.map Value.string).toArray t) (hs : ∀ s ∈ l, s.size ≤ maxLen) (B : Nat) (hB : b < B) : Elems tStr w B (some ⟨b, 0, none⟩) l := by
  refine Elems.of_block (l.map fun s => [Value.string s]) h hB (by simp) (fun i hi => ?_) (by rw [← str_flat l])
  rw [List.getElem_map]
  exact ⟨rfl, hs _ (List.getElem_mem hi)⟩
set_option maxRecDepth 100000 in
theorem attr_any (s : ByteArray) (w : World) : Calls Try.prog 45 #[.string s] w fun e w' => e = .returned (.int .i64 (idxI s attrsN)) ∧ Below w.heap.size w w' := by
  go_enter Try.func45, Try.ntmps45
  have hE : Elems tStr (w.alloc (.cells (attrsN.map Value.string).toArray 9)) (w.heap.size + 1) (some ⟨w.heap.size, 0, none⟩) attrsN := st_lit (Bk.new _ _ _) (by unfold maxLen; decide) _ (by omega)
  have HE := Lib.hid hE
  clear hE
  go_wp2_with (go_at_call 48; refine (idx_any _ attrsN 10 10 s _ _ HE.out (by simp) rfl (by decide)).mono ?_; rintro e w' ⟨rfl, rfl⟩)
  go_ret
  exact ⟨rfl, below_self _ _⟩
end Go.Proofs.Ytecjhniomjmocaa
