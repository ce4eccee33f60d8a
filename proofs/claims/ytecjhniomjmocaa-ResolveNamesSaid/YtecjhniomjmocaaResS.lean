/- Layer 12 (resolve): whether facts are in a zone, or in one of some. -/
import Derived.Test.YtecjhniomjmocaaResR
namespace Go.Proofs.Ytecjhniomjmocaa
open Go.RowKit Go.ChangeAt
set_option linter.unusedVariables false
set_option linter.unusedSimpArgs false
attribute [local go_sem] ext_cell ext_frozen lt_ext ext_drew

def fcV (f : Fc) : Array Value := (intsV f).toArray
theorem fcV_size {f : Fc} (h : f.length = 10) : (fcV f).size = 10 := by simp [fcV, intsV_len, h]
theorem fcV_at {f : Fc} {k : Nat} (h : k < f.length) : (fcV f)[k]? = some (.int .i64 (atF f k)) := by
  have := intsV_at (atF_get h)
  simpa [fcV] using this
set_option maxRecDepth 100000 in
set_option maxHeartbeats 1000000 in
theorem in_any (z : Zn) (f : Fc) (w : World) (hz : z.length = 10) (hf : f.length = 10) (r : Bool) (hr : inZ z f = r) :
    Calls Try.prog 18 #[.agg (znV z), .agg (fcV f)] w fun e w' => e = .returned (.bool r) ∧ Below w.heap.size w w' := by
  have Hr := Lib.hid hr
  have hP := (Bk.new w (znV z) 42).alloc (.cells (fcV f) 48)
  have hF := bk_next w (.cells (znV z) 42) (fcV f) 48
  have HP := Lib.hid (And.intro hP hF)
  have hlt := hP.lt
  have hlt2 := hF.lt
  clear hr hP hF
  go_enter Try.func18, Try.ntmps18
  go_wp2_with fail
  go_loopw [5] (fun i wr => ∃ (k q : Nat), k ≤ 10 ∧ i = .int .i64 k ∧ (∀ j, j < k → inR (atR z j) (atF f j) = true) ∧ wr = ((w.alloc (.cells (znV z) 42)).alloc (.cells (fcV f) 48)).drewN q) (fun i _ => 10 - (intOf i).toNat)
  case atStart => exact ⟨0, 0, by omega, rfl, fun j hj => by omega, rfl⟩
  case round =>
    obtain ⟨k, q, hk, rfl, hall, rfl⟩ := hrel
    have Hall := Lib.hid hall
    clear hall
    by_cases hlt10 : k < 10
    · have h1 : ((w.alloc (.cells (znV z) 42)).alloc (.cells (fcV f) 48)).cell? ⟨w.heap.size, k * 2, none⟩ = some (.int .i64 (atR z k).1) := by rw [HP.out.1.cell]; exact (znV_at (by omega)).1
      have h2 : ((w.alloc (.cells (znV z) 42)).alloc (.cells (fcV f) 48)).cell? ⟨w.heap.size, k * 2 + 1, none⟩ = some (.int .i64 (atR z k).2) := by rw [HP.out.1.cell]; exact (znV_at (by omega)).2
      have h3 : ((w.alloc (.cells (znV z) 42)).alloc (.cells (fcV f) 48)).cell? ⟨w.heap.size + 1, k, none⟩ = some (.int .i64 (atF f k)) := by rw [HP.out.2.cell]; exact fcV_at (by omega)
      generalize hW : (w.alloc (.cells (znV z) 42)).alloc (.cells (fcV f) 48) = W at *
      have HW := Lib.hid hW
      clear hW
      have hk10 : (k : Int) < 10 := by omega
      by_cases hin : inR (atR z k) (atF f k) = true
      · have hin' := hin
        simp only [inR, Bool.and_eq_true, decide_eq_true_eq] at hin'
        obtain ⟨i1, i2⟩ := hin'
        have Hnew : Hid (∀ j, j < k + 1 → inR (atR z j) (atF f j) = true) := Lib.hid fun j hj => by
          by_cases e : j = k
          · subst e; exact hin
          · exact Hall.out j (by omega)
        clear hin
        generalize (atR z k).1 = lo at *
        generalize (atR z k).2 = hi at *
        generalize atF f k = n at *
        have i1' : ¬ n < lo := by omega
        have i2' : ¬ hi < n := by omega
        go_upto_region 4 with (fail)
        go_quiet (fail)
        go_wp2_with fail
        go_roundw
        case rel => exact ⟨k + 1, _, by omega, by go_num, Hnew.out, rfl⟩
        case measure => simp [intOf]; omega
      · rw [Bool.not_eq_true] at hin
        obtain rfl : r = false := by rw [← Hr.out]; exact inZ_bad hlt10 hin
        have hno : atF f k < (atR z k).1 ∨ (atR z k).2 < atF f k := by
          simp only [inR, Bool.and_eq_false_iff, decide_eq_false_iff_not] at hin; omega
        clear hin
        generalize (atR z k).1 = lo at *
        generalize (atR z k).2 = hi at *
        generalize atF f k = n at *
        by_cases h5 : n < lo
        · go_upto_region 4 with (fail)
          go_quiet (fail)
          go_wp2_with fail
          go_ret
          refine ⟨rfl, ?_⟩
          rw [← HW.out]
          (repeat (first | with_reducible exact Below.refl _ _ | with_reducible assumption | with_reducible refine Below.alloc0 ?_ _ | with_reducible refine Below.ext0 ?_ _ | with_reducible refine Below.drew ?_ | with_reducible refine below_drewN ?_ _ | (with_reducible refine Below.setCell (hp := ?hp) ?_ _; case hp => (first | (simp; done) | (simp; omega)))))
        · have h6 : hi < n := by omega
          have h5' : ¬ n < lo := h5
          go_upto_region 4 with (fail)
          go_quiet (fail)
          go_wp2_with fail
          go_ret
          refine ⟨rfl, ?_⟩
          rw [← HW.out]
          (repeat (first | with_reducible exact Below.refl _ _ | with_reducible assumption | with_reducible refine Below.alloc0 ?_ _ | with_reducible refine Below.ext0 ?_ _ | with_reducible refine Below.drew ?_ | with_reducible refine below_drewN ?_ _ | (with_reducible refine Below.setCell (hp := ?hp) ?_ _; case hp => (first | (simp; done) | (simp; omega)))))
    · obtain rfl : k = 10 := by omega
      obtain rfl : r = true := by rw [← Hr.out]; exact inZ_all Hall.out
      go_wp2_with fail
      go_ret
      exact ⟨rfl, below_drewN (Below.alloc0 (below_self _ _) _) _⟩
theorem any_take {α : Type} {xs : List α} {k : Nat} {x : α} (p : α → Bool) (h : xs[k]? = some x) : (xs.take (k + 1)).any p = ((xs.take k).any p || p x) := by
  rw [List.take_add_one, h, List.any_append]
  simp
set_option maxRecDepth 100000 in
set_option maxHeartbeats 1000000 in
theorem applies_any (A : Option Addr) (zs : List Zn) (n cap : Nat) (f : Fc) (w : World) (B : Nat) (h : Elems tZn w B A zs) (hB : B ≤ w.heap.size) (hn : zs.length = n) (hl : zs.length ≤ 9223372036854775807) (hf : f.length = 10) (r : Bool) (hr : (zs.any fun z => inZ z f) = r) :
    Calls Try.prog 19 #[.slice A n cap, .agg (fcV f)] w fun e w' => e = .returned (.bool r) ∧ Below w.heap.size w w' := by
  subst hn
  have HH := Lib.hid (And.intro h hr)
  clear h hr
  go_enter Try.func19, Try.ntmps19
  go_wp2_with fail
  go_loopw [5] (fun i wr => ∃ (k : Nat), k ≤ zs.length ∧ i = .int .i64 k ∧ (zs.take k).any (fun z => inZ z f) = false ∧ Below w.heap.size w wr ∧ Bk wr w.heap.size (fcV f) 48) (fun i _ => zs.length - (intOf i).toNat)
  case atStart => exact ⟨0, by omega, rfl, rfl, below_self _ _, Bk.new _ _ _⟩
  case round =>
    obtain ⟨k, hk, rfl, hany, hw, bf⟩ := hrel
    have hwz := hw.size
    have Hb := Lib.hid (And.intro hw bf)
    have lf := bf.lt
    by_cases hlt : k < zs.length
    · obtain ⟨b, off, z, rfl, hb, Hz, hzm, Hzc⟩ := pick_zn (HH.out.1.keep (hw.mono hB) (Nat.le_refl _)) hlt
      have hz10 : z.length = 10 := by
        obtain ⟨cs, hr⟩ := HH.out.1.rd_mem hzm
        exact (zn_cells hr).2.1
      have Hz10 := Lib.hid hz10
      have hkl : (k : Int) < (zs.length : Int) := by omega
      have bw : b < wr.heap.size := by omega
      have hat := any_take (fun z => inZ z f) Hz.out
      rw [hany, Bool.false_or] at hat
      have Hin := Lib.hid (in_any z f · hz10 hf)
      clear hw bf hany hz10
      cases hs : inZ z f with
      | true =>
        have HW := Lib.hid (And.intro (show r = true by rw [← HH.out.2, List.any_eq_true]; exact ⟨z, hzm, hs⟩) hs)
        clear hat hs
        go_upto_region 4 with (fail)
        refine wp_region_ext wr (by kernel_rfl) (by kernel_rfl) ?_
        iterate 3 (go_big_quiet_step (fail))
        go_big_quiet_want
        refine quiet_load_at _ _ rfl b (off + k * 20) rfl (znV z) _ (fun w9 hw9 j u hu => by obtain ⟨u9, rfl⟩ := hw9; rw [ext_cell _ _ bw]; exact Hzc.out j u hu) Try.underlying42 rfl (by rw [znV_size Hz10.out]; kernel_rfl) ?_
        go_simp
        go_big_quiet_on
        go_big_quiet_want
        refine quiet_load_at _ _ rfl w.heap.size 0 rfl (fcV f) _ (fun w9 hw9 j u hu => by obtain ⟨u9, rfl⟩ := hw9; rw [ext_cell _ _ lf, Nat.zero_add, Hb.out.2.cell]; exact hu) Try.underlying48 rfl (by rw [fcV_size hf]; kernel_rfl) ?_
        go_simp
        go_big_quiet_on
        go_big_quiet_step ((go_at_call 18; exact Calls.in_ext (Hin.out _ true HW.out.2)))
        refine wpQuiet_nil (fun v => ?_)
        go_wp2_with fail
        go_ret
        exact ⟨ret_bool HW.out.1.symm, ext_below Hb.out.1 hwz v⟩
      | false =>
        have HW := Lib.hid (And.intro (show (zs.take (k + 1)).any (fun z => inZ z f) = false by rw [hat, hs]) hs)
        clear hat hs
        go_upto_region 4 with (fail)
        refine wp_region_ext wr (by kernel_rfl) (by kernel_rfl) ?_
        iterate 3 (go_big_quiet_step (fail))
        go_big_quiet_want
        refine quiet_load_at _ _ rfl b (off + k * 20) rfl (znV z) _ (fun w9 hw9 j u hu => by obtain ⟨u9, rfl⟩ := hw9; rw [ext_cell _ _ bw]; exact Hzc.out j u hu) Try.underlying42 rfl (by rw [znV_size Hz10.out]; kernel_rfl) ?_
        go_simp
        go_big_quiet_on
        go_big_quiet_want
        refine quiet_load_at _ _ rfl w.heap.size 0 rfl (fcV f) _ (fun w9 hw9 j u hu => by obtain ⟨u9, rfl⟩ := hw9; rw [ext_cell _ _ lf, Nat.zero_add, Hb.out.2.cell]; exact hu) Try.underlying48 rfl (by rw [fcV_size hf]; kernel_rfl) ?_
        go_simp
        go_big_quiet_on
        go_big_quiet_step ((go_at_call 18; exact Calls.in_ext (Hin.out _ false HW.out.2)))
        refine wpQuiet_nil (fun v => ?_)
        go_wp2_with fail
        go_roundw
        case rel => exact ⟨k + 1, by omega, by go_num, HW.out.1, ext_below Hb.out.1 hwz v, Hb.out.2.ext v⟩
        case measure => simp [intOf]; omega
    · obtain rfl : k = zs.length := by omega
      rw [List.take_length, HH.out.2] at hany
      subst hany
      clear hw bf
      go_wp2_with fail
      go_ret
      exact ⟨rfl, Hb.out.1⟩
end Go.Proofs.Ytecjhniomjmocaa
