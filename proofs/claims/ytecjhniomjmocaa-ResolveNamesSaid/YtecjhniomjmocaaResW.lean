/- Layer 12 (resolve): how the laws' arguments are opened, and the contracts as the laws use them; whether two zones meet. -/
import Derived.Test.YtecjhniomjmocaaResV
import Derived.Test.YtecjhniomjmocaaResX
namespace Go.Proofs.Ytecjhniomjmocaa
open Go.RowKit Go.ChangeAt
set_option linter.unusedVariables false
set_option linter.unusedSimpArgs false
attribute [local go_sem] ext_cell ext_frozen lt_ext ext_drew

theorem own : ownKnob Try.prog.godebug = none := by kernel_rfl
theorem laidOut : laidOutB Try.prog = true := by kernel_rfl
theorem items_of {w : World} {cs : Array Value} {y : List It} (h : (tSlice tIt).rd w w.heap.size cs.toList y) : ∃ A cap, Value.agg cs = .agg #[.slice A y.length cap] ∧ y.length ≤ cap ∧ cap ≤ 9223372036854775807 ∧ Elems tIt w w.heap.size A y := by
  obtain ⟨A, cap, e, h1, h2, h3⟩ := h
  obtain ⟨l⟩ := cs
  simp only at e
  subst e
  exact ⟨A, cap, rfl, h1, by unfold maxLen at h2; omega, h3⟩
theorem hall_of {w : World} {cs : Array Value} {y : Ha} (h : tHa.rd w w.heap.size cs.toList y) : ∃ hn a b A cap, Value.agg cs = .agg #[.string hn, .int .i64 a, .int .i64 b, .slice A y.2.2.length cap] ∧ y.2.2.length ≤ 9223372036854775807 ∧ y.2.2.length ≤ cap ∧ cap ≤ 9223372036854775807 ∧ Elems tLe w w.heap.size A y.2.2 ∧ hn.size ≤ 1125899906842624 := by
  obtain ⟨hn, ⟨a, b⟩, lv⟩ := y
  obtain ⟨c1, r1, e, ⟨rfl, g1⟩, ⟨c2, r2, rfl, ⟨d1, d2, rfl, ⟨rfl, _⟩, ⟨rfl, _⟩⟩, ⟨A, cap, rfl, h1, h2, h3⟩⟩⟩ := h
  obtain ⟨l⟩ := cs
  simp only at e
  subst e
  have h1' : lv.length ≤ cap := h1
  unfold maxLen at h2
  exact ⟨hn, a, b, A, cap, rfl, by show lv.length ≤ _; omega, h1, by omega, h3, g1⟩
section
variable {A AH : Option Addr} {its : List It} {lh : List Le} {cap ch : Nat} {hn : ByteArray} {x y : Int} {w : World}
/-- The contracts, in every world that continues w. -/
theorem few_in (h : Elems tIt w w.heap.size A its) (hn : its.length ≤ 9223372036854775807) (r : Bool) (hr : fewB its = r) : ∀ X, Below w.heap.size w X → Calls Try.prog 10 #[.agg #[.slice A its.length cap]] X fun e w' => e = .returned (.bool r) ∧ Below X.heap.size X w' := fun X hX => by
  have := few_any A its cap X w.heap.size (h.keep hX (Nat.le_refl _)) hX.size hn
  rwa [hr] at this
theorem small_in (h : Elems tLe w w.heap.size AH lh) (hl : lh.length ≤ 9223372036854775807) (r : Bool) (hr : smallB lh = r) : ∀ X, Below w.heap.size w X → Calls Try.prog 11 #[.agg #[.string hn, .int .i64 x, .int .i64 y, .slice AH lh.length ch]] X fun e w' => e = .returned (.bool r) ∧ Below X.heap.size X w' := fun X hX => by
  have := small_any hn x y AH lh ch X w.heap.size (h.keep hX (Nat.le_refl _)) hX.size hl
  rwa [hr] at this
theorem fewB_spec (h : fewB its = true) : its.length ≤ 210 ∧ ∀ x ∈ its, x.2.2.1.length ≤ 12 ∧ ∀ l ∈ x.2.2.1, l.length ≤ 8 := by
  unfold fewB at h
  simp only [Bool.and_eq_true, decide_eq_true_eq, List.all_eq_true] at h
  refine ⟨h.2, fun x hx => ?_⟩
  have := h.1 x hx
  unfold fewI at this
  simpa using this
theorem smallB_spec (h : smallB lh = true) : lh.length ≤ 10 ∧ ∀ l ∈ lh, l.2.2.1.length + l.2.2.2.1.length ≤ 50 := by
  unfold smallB at h
  simp only [Bool.and_eq_true, decide_eq_true_eq, List.all_eq_true] at h
  refine ⟨h.2, fun x hx => ?_⟩
  have := h.1 x hx
  unfold smallL at this
  simpa using this
theorem comp_in (h : Elems tIt w w.heap.size A its) (hh : Elems tLe w w.heap.size AH lh) (hf : fewB its = true) (hs : smallB lh = true) (hcap : its.length ≤ cap) (hcm : cap ≤ 9223372036854775807) (L : Nm) (hL : (lvlsN lh, blksN lh) = L) :
    ∀ X, Below w.heap.size w X → Calls Try.prog 12 #[.agg #[.slice A its.length cap], .agg #[.string hn, .int .i64 x, .int .i64 y, .slice AH lh.length ch]] X (CompR X L its) := fun X hX =>
  compile_any A its cap hn x y AH lh ch X w.heap.size (h.keep hX (Nat.le_refl _)) (hh.keep hX (Nat.le_refl _)) hX.size (fewB_spec hf).1 hcap hcm (fewB_spec hf).2 (smallB_spec hs).1 (smallB_spec hs).2 L hL
end
theorem meetB_bad {x y : Zn} {k : Nat} (hk : k < 10) (h : min (atR x k).2 (atR y k).2 < max (atR x k).1 (atR y k).1) : meetB x y = false := by
  cases hm : meetB x y with
  | false => rfl
  | true =>
    unfold meetB at hm
    rw [List.all_eq_true] at hm
    have := hm k (by simpa using hk)
    simp only [decide_eq_true_eq] at this
    omega
theorem meetB_all {x y : Zn} (h : ∀ k, k < 10 → max (atR x k).1 (atR y k).1 ≤ min (atR x k).2 (atR y k).2) : meetB x y = true := by
  unfold meetB
  rw [List.all_eq_true]
  intro k hk
  simp only [decide_eq_true_eq]
  exact h k (by simpa using hk)
set_option maxRecDepth 100000 in
set_option maxHeartbeats 1000000 in
theorem meet_any (z y : Zn) (w : World) (hz : z.length = 10) (hy : y.length = 10) (r : Bool) (hr : meetB z y = r) :
    Calls Try.prog 21 #[.agg (znV z), .agg (znV y)] w fun e w' => e = .returned (.bool r) ∧ Below w.heap.size w w' := by
  have Hr := Lib.hid hr
  have hP := (Bk.new w (znV z) 42).alloc (.cells (znV y) 42)
  have hF := bk_next w (.cells (znV z) 42) (znV y) 42
  have HP := Lib.hid (And.intro hP hF)
  have hlt := hP.lt
  have hlt2 := hF.lt
  have hmx := ite_max
  have hmn := ite_min
  clear hr hP hF
  go_enter Try.func21, Try.ntmps21
  go_wp2_with fail
  go_loopw [5] (fun i wr => ∃ (k q : Nat), k ≤ 10 ∧ i = .int .i64 k ∧ (∀ j, j < k → max (atR z j).1 (atR y j).1 ≤ min (atR z j).2 (atR y j).2) ∧ wr = ((w.alloc (.cells (znV z) 42)).alloc (.cells (znV y) 42)).drewN q) (fun i _ => 10 - (intOf i).toNat)
  case atStart => exact ⟨0, 0, by omega, rfl, fun j hj => by omega, rfl⟩
  case round =>
    obtain ⟨k, q, hk, rfl, hall, rfl⟩ := hrel
    have Hall := Lib.hid hall
    clear hall
    by_cases hlt10 : k < 10
    · have h1 : ((w.alloc (.cells (znV z) 42)).alloc (.cells (znV y) 42)).cell? ⟨w.heap.size, k * 2, none⟩ = some (.int .i64 (atR z k).1) := by rw [HP.out.1.cell]; exact (znV_at (by omega)).1
      have h2 : ((w.alloc (.cells (znV z) 42)).alloc (.cells (znV y) 42)).cell? ⟨w.heap.size, k * 2 + 1, none⟩ = some (.int .i64 (atR z k).2) := by rw [HP.out.1.cell]; exact (znV_at (by omega)).2
      have h3 : ((w.alloc (.cells (znV z) 42)).alloc (.cells (znV y) 42)).cell? ⟨w.heap.size + 1, k * 2, none⟩ = some (.int .i64 (atR y k).1) := by rw [HP.out.2.cell]; exact (znV_at (by omega)).1
      have h4 : ((w.alloc (.cells (znV z) 42)).alloc (.cells (znV y) 42)).cell? ⟨w.heap.size + 1, k * 2 + 1, none⟩ = some (.int .i64 (atR y k).2) := by rw [HP.out.2.cell]; exact (znV_at (by omega)).2
      generalize hW : (w.alloc (.cells (znV z) 42)).alloc (.cells (znV y) 42) = W at *
      have HW := Lib.hid hW
      clear hW
      have hk10 : (k : Int) < 10 := by omega
      by_cases hin : max (atR z k).1 (atR y k).1 ≤ min (atR z k).2 (atR y k).2
      · have Hnew : Hid (∀ j, j < k + 1 → max (atR z j).1 (atR y j).1 ≤ min (atR z j).2 (atR y j).2) := Lib.hid fun j hj => by
          by_cases e : j = k
          · subst e; exact hin
          · exact Hall.out j (by omega)
        generalize (atR z k).1 = lo at *
        generalize (atR z k).2 = hi at *
        generalize (atR y k).1 = lo2 at *
        generalize (atR y k).2 = hi2 at *
        have hin' : ¬ min hi hi2 < max lo lo2 := by omega
        go_upto_region 4 with (fail)
        go_quiet (fail)
        go_wp2_with fail
        go_roundw
        case rel => exact ⟨k + 1, _, by omega, by go_num, Hnew.out, rfl⟩
        case measure => simp [intOf]; omega
      · obtain rfl : r = false := by rw [← Hr.out]; exact meetB_bad hlt10 (by omega)
        generalize (atR z k).1 = lo at *
        generalize (atR z k).2 = hi at *
        generalize (atR y k).1 = lo2 at *
        generalize (atR y k).2 = hi2 at *
        have hin' : min hi hi2 < max lo lo2 := by omega
        clear hin
        go_upto_region 4 with (fail)
        go_quiet (fail)
        go_wp2_with fail
        go_ret
        refine ⟨rfl, ?_⟩
        rw [← HW.out]
        (repeat (first | with_reducible exact Below.refl _ _ | with_reducible assumption | with_reducible refine Below.alloc0 ?_ _ | with_reducible refine Below.ext0 ?_ _ | with_reducible refine Below.drew ?_ | with_reducible refine below_drewN ?_ _ | (with_reducible refine Below.setCell (hp := ?hp) ?_ _; case hp => (first | (simp; done) | (simp; omega)))))
    · obtain rfl : k = 10 := by omega
      obtain rfl : r = true := by rw [← Hr.out]; exact meetB_all Hall.out
      go_wp2_with fail
      go_ret
      exact ⟨rfl, by (repeat (first | with_reducible exact Below.refl _ _ | with_reducible assumption | with_reducible refine Below.alloc0 ?_ _ | with_reducible refine Below.ext0 ?_ _ | with_reducible refine Below.drew ?_ | with_reducible refine below_drewN ?_ _ | (with_reducible refine Below.setCell (hp := ?hp) ?_ _; case hp => (first | (simp; done) | (simp; omega)))))⟩
end Go.Proofs.Ytecjhniomjmocaa
