/- Layer 12 (resolve): whether a name was there before. -/
import Derived.Test.YtecjhniomjmocaaResC
namespace Go.Proofs.Ytecjhniomjmocaa
open Go.RowKit Go.ChangeAt
set_option linter.unusedVariables false
set_option linter.unusedSimpArgs false
attribute [local go_sem] ext_cell ext_frozen lt_ext ext_drew

theorem Elems.take {α : Type} {T : Ty α} {w : World} {B : Nat} {A : Option Addr} {xs : List α} (h : Elems T w B A xs) (k : Nat) : Elems T w B A (xs.take k) := by
  intro i hi
  have hi' : i < xs.length := by rw [List.length_take] at hi; omega
  have := h i hi'
  rw [List.getElem_take]
  exact this
def sameB (a b : ByteArray) : Bool := decide (a = b)
theorem same_list (a b : ByteArray) : (a.toList == b.toList) = sameB a b := by
  unfold sameB
  by_cases h : a = b
  · subst h; simp
  · rw [bytes_ne h, decide_eq_false h]
set_option maxRecDepth 100000 in
theorem cl_any (kd : Int) (n1 : ByteArray) (AW : Option Addr) (k cw : Nat) (n rn rd sn sd att : Int) (xb : Nat) (nm : ByteArray) (w : World) (hc : w.cell? ⟨xb, 1, none⟩ = some (.string nm)) (hl : xb < w.heap.size) :
    Calls Try.prog 28 #[.agg #[.int .i64 kd, .string n1, .slice AW k cw, .int .i64 n, .int .i64 rn, .int .i64 rd, .int .i64 sn, .int .i64 sd, .int .i64 att], .pointer (some ⟨xb, 0, none⟩)] w fun e w' => e = .returned (.bool (sameB n1 nm)) ∧ Below w.heap.size w w' := by
  go_enter Try.func28, Try.ntmps28
  go_wp2
  go_ret
  exact ⟨ret_bool (same_list _ _), below_self _ _⟩

def AnyR (w : World) (r : Bool) (e : Ending) (w' : World) : Prop := (∃ n : Int, e = .returned (.int .i64 n) ∧ -1 ≤ n ∧ n ≤ 1000000 ∧ decide (0 ≤ n) = r) ∧ Below w.heap.size w w'
theorem anyNm_take {ls : List It} {k : Nat} {x : It} {nm : ByteArray} (h : ls[k]? = some x) : (ls.take (k + 1)).any (fun y => sameB y.2.1 nm) = ((ls.take k).any (fun y => sameB y.2.1 nm) || sameB x.2.1 nm) := by
  rw [List.take_add_one, h, List.any_append]
  simp
theorem anyNm_stop {ls : List It} {k : Nat} {x : It} {nm : ByteArray} (h : ls[k]? = some x) (hx : sameB x.2.1 nm = true) : ls.any (fun y => sameB y.2.1 nm) = true := by
  rw [List.any_eq_true]
  exact ⟨x, List.mem_of_getElem? h, hx⟩
set_option maxRecDepth 100000 in
set_option maxHeartbeats 1000000 in
theorem index_any (A : Option Addr) (ls : List It) (cap xb : Nat) (nm : ByteArray) (w : World) (B : Nat) (h : Elems tIt w B A ls) (hB : B ≤ w.heap.size) (hc : w.cell? ⟨xb, 1, none⟩ = some (.string nm)) (hl : xb < w.heap.size) (hn : ls.length ≤ 1000000) :
    Calls Try.prog 34 #[.slice A ls.length cap, .func (.func 28) #[] #[.pointer (some ⟨xb, 0, none⟩)]] w (AnyR w (ls.any fun y => sameB y.2.1 nm)) := by
  have HH := Lib.hid (And.intro h (And.intro hc hl))
  clear h hc hl
  go_enter Try.func34, Try.ntmps34
  go_wp2_with fail
  go_loopw [5, 8] (fun _ i wr => ∃ k : Nat, k ≤ ls.length ∧ i = .int .i64 k ∧ (ls.take k).any (fun y => sameB y.2.1 nm) = false ∧ Below w.heap.size w wr) (fun _ i _ => ls.length - (intOf i).toNat)
  case atStart => exact ⟨0, by omega, rfl, rfl, Below.refl _ _⟩
  case round =>
    obtain ⟨k, hk, rfl, hany, hw⟩ := hrel
    have hwr := hw.size
    by_cases hlt : k < ls.length
    · obtain ⟨b, off, kd, n1, AW, ws, cw, n, rn, rd, sn, sd, att, rfl, hb, Hk, d0, d1, d2, d3, d4, d5, d6, d7, d8, g1, g2, g3, f1, f2, f3, f4, f5, f6, f7, g4⟩ := pick_it (HH.out.1.keep (hw.mono hB) (Nat.le_refl _)) hlt
      have hkl : (k : Int) < (ls.length : Int) := by omega
      have bw : b < wr.heap.size := by omega
      have Hc := Lib.hid (show wr.cell? ⟨xb, 1, none⟩ = some (.string nm) from (hw.cell (p := ⟨xb, 1, none⟩) HH.out.2.2).trans HH.out.2.1)
      have hlx : xb < wr.heap.size := by have := HH.out.2.2; omega
      have hat := anyNm_take (nm := nm) Hk.out
      rw [hany, Bool.false_or] at hat
      cases hs : sameB n1 nm with
      | true =>
        have hst := anyNm_stop (nm := nm) Hk.out hs
        have HW := Lib.hid (And.intro hw (And.intro hst hs))
        clear hat hst hs hw hany g3 g4
        go_wp2_with (go_at_call 28; refine (cl_any _ _ _ _ _ _ _ _ _ _ _ xb nm _ Hc.out hlx).mono ?_; rw [HW.out.2.2]; rintro e w' ⟨rfl, hb2⟩; have HB2 := Lib.hid hb2; clear hb2)
        go_ret
        exact ⟨⟨k, rfl, by omega, by omega, by rw [HW.out.2.1]; simp⟩, HW.out.1.trans (HB2.out.mono hwr)⟩
      | false =>
        have HW := Lib.hid (And.intro hw (And.intro hat hs))
        clear hat hs hw hany g3 g4
        go_wp2_with (go_at_call 28; refine (cl_any _ _ _ _ _ _ _ _ _ _ _ xb nm _ Hc.out hlx).mono ?_; rw [HW.out.2.2]; rintro e w' ⟨rfl, hb2⟩; have HB2 := Lib.hid hb2; clear hb2)
        go_roundw
        case rel => exact ⟨k + 1, by omega, by go_num, by rw [HW.out.2.1]; exact HW.out.2.2, HW.out.1.trans (HB2.out.mono hwr)⟩
        case measure => simp [intOf]; omega
    · obtain rfl : k = ls.length := by omega
      rw [List.take_length] at hany
      have HW := Lib.hid (And.intro hw hany)
      clear hw hany
      go_wp2_with fail
      go_ret
      exact ⟨⟨-1, rfl, by omega, by omega, by rw [HW.out.2]; simp⟩, HW.out.1⟩
set_option maxRecDepth 100000 in
theorem contains_any (A : Option Addr) (ls : List It) (n cap xb : Nat) (nm : ByteArray) (w : World) (B : Nat) (h : Elems tIt w B A ls) (hB : B ≤ w.heap.size) (hc : w.cell? ⟨xb, 1, none⟩ = some (.string nm)) (hl : xb < w.heap.size) (hn : ls.length ≤ 1000000) (hn2 : ls.length = n) (r : Bool) (hr : (ls.any fun y => sameB y.2.1 nm) = r) :
    Calls Try.prog 27 #[.slice A n cap, .func (.func 28) #[] #[.pointer (some ⟨xb, 0, none⟩)]] w fun e w' => e = .returned (.bool r) ∧ Below w.heap.size w w' := by
  subst hn2
  have HI := Lib.hid (index_any A ls cap xb nm w B h hB hc hl hn)
  clear h hc hl
  go_enter Try.func27, Try.ntmps27
  go_wp2_with (go_at_call 34; refine HI.out.mono ?_; rintro e w' ⟨⟨m, rfl, m1, m2, m3⟩, hb⟩; have H3 := Lib.hid (And.intro m3 hb); clear m3 hb)
  go_ret
  exact ⟨ret_bool (by rw [← hr, ← H3.out.1]), H3.out.2⟩
end Go.Proofs.Ytecjhniomjmocaa
