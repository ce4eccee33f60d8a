/- Layer 34 (deal): how the laws' arguments are opened; what the laws call, in every world that continues one. -/
import Derived.Test.YtggmihnhdojepaaDealPl
import Derived.Test.YtggmihnhdojepaaDealM
namespace Go.Proofs.Ytggmihnhdojepaa
open Go.RowKit Go.ChangeAt
set_option linter.unusedVariables false
set_option linter.unusedSimpArgs false
attribute [local go_sem] ext_cell ext_frozen lt_ext ext_drew

theorem own : ownKnob Try.prog.godebug = none := by kernel_rfl
theorem laidOut : laidOutB Try.prog = true := by kernel_rfl

abbrev tRat : Ty (Int × Int) := tPair tInt tInt
abbrev tBill : Ty (List Ln × Int) := tPair (tSlice tLine) tInt
abbrev tDec := tPair tBool (tPair tBool (tPair tBool (tPair tInt (tPair tInt (tPair tRat (tPair tRat (tPair tRat (tPair tRat (tPair tRat tInt)))))))))
theorem opensI : Opens Try.prog 3 tInt := opens_int Try.underlying3 (by kernel_rfl)
theorem opensB : Opens Try.prog 4 tBool := opens_bool Try.underlying4 (by kernel_rfl)
theorem opensS : Opens Try.prog 9 tStr := opens_str Try.underlying9 (by kernel_rfl)
theorem opensRat : Opens Try.prog 26 tRat := opens_struct Try.underlying26 (by kernel_rfl) (.cons rfl opensI (.one rfl opensI))
theorem opensLine : Opens Try.prog 61 tLine := opens_struct Try.underlying61 (by kernel_rfl) (.cons rfl opensI (.one rfl opensI))
theorem opensLines : Opens Try.prog 22 (tSlice tLine) := opens_slice Try.underlying22 (by kernel_rfl) (by decide) opensLine
theorem opensBill : Opens Try.prog 24 tBill := opens_struct Try.underlying24 (by kernel_rfl) (.cons rfl opensLines (.one rfl opensI))
theorem opensMean : Opens Try.prog 45 tMean := opens_struct Try.underlying45 (by kernel_rfl) (.cons rfl opensS (.one rfl opensI))
theorem opensMeans : Opens Try.prog 29 (tSlice tMean) := opens_slice Try.underlying29 (by kernel_rfl) (by decide) opensMean
theorem opensDec : Opens Try.prog 28 tDec := opens_struct Try.underlying28 (by kernel_rfl)
  (.cons rfl opensB (.cons rfl opensB (.cons rfl opensB (.cons rfl opensI (.cons rfl opensI (.cons rfl opensRat (.cons rfl opensRat (.cons rfl opensRat (.cons rfl opensRat (.cons rfl opensRat (.one rfl opensI)))))))))))

theorem dec_of {w : World} {B : Nat} {cs : Array Value} {x} (h : tDec.rd w B cs.toList x) : ∃ (al to si : Bool) (lim price fn fd tn td cn cd sn sd rn rd y : Int), cs = #[.bool al, .bool to, .bool si, .int .i64 lim, .int .i64 price, .int .i64 fn, .int .i64 fd, .int .i64 tn, .int .i64 td, .int .i64 cn, .int .i64 cd, .int .i64 sn, .int .i64 sd, .int .i64 rn, .int .i64 rd, .int .i64 y] := by
  obtain ⟨al, to, si, lim, price, ⟨fn, fd⟩, ⟨tn, td⟩, ⟨cn, cd⟩, ⟨sn, sd⟩, ⟨rn, rd⟩, y⟩ := x
  obtain ⟨c1, r1, e1, rfl, c2, r2, rfl, rfl, c3, r3, rfl, rfl, c4, r4, rfl, ⟨rfl, _⟩, c5, r5, rfl, ⟨rfl, hp⟩, c6, r6, rfl, ⟨a1, b1, rfl, ⟨rfl, h1⟩, ⟨rfl, h2⟩⟩, c7, r7, rfl, ⟨a2, b2, rfl, ⟨rfl, _⟩, ⟨rfl, _⟩⟩, c8, r8, rfl, ⟨a3, b3, rfl, ⟨rfl, _⟩, ⟨rfl, _⟩⟩,
    c9, r9, rfl, ⟨a4, b4, rfl, ⟨rfl, _⟩, ⟨rfl, _⟩⟩, c10, r10, rfl, ⟨a5, b5, rfl, ⟨rfl, _⟩, ⟨rfl, _⟩⟩, rfl, _⟩ := h
  refine ⟨al, to, si, lim, price, fn, fd, tn, td, cn, cd, sn, sd, rn, rd, y, ?_⟩
  cases cs
  simp only at e1
  rw [e1]
  rfl
theorem bill_of {w : World} {B : Nat} {cs : Array Value} {x : List Ln × Int} (h : tBill.rd w B cs.toList x) : ∃ A cap, cs = #[.slice A x.1.length cap, .int .i64 x.2] ∧ x.1.length ≤ cap ∧ cap ≤ maxLen ∧ Elems tLine w B A x.1 ∧ fits x.2 := by
  obtain ⟨c1, r1, e1, ⟨A, cap, rfl, h1, h2, h3⟩, ⟨rfl, h4⟩⟩ := h
  refine ⟨A, cap, ?_, h1, h2, h3, h4⟩
  cases cs
  simp only at e1
  rw [e1]
  rfl

section
variable {A : Option Addr} {ls : List Ln} {cap n : Nat} {total : Int} {A2 : Option Addr} {ms : List Mn} {cap2 n2 : Nat} {pn : ByteArray} {w : World} {B : Nat} {ps : List Pst}
theorem few_in (h2 : Elems tMean w B A2 ms) (hB : B ≤ w.heap.size) (hn : n = ls.length) (hn2 : n2 = ms.length) (hl : n ≤ 9223372036854775807) (hl2 : n2 ≤ 9223372036854775807) (r : Bool) (hr : fewD ls ms = r) :
    ∀ X, Below w.heap.size w X → Calls Try.prog 11 #[.agg #[.slice A n cap, .int .i64 total], .slice A2 n2 cap2] X fun e w' => e = .returned (.bool r) ∧ Below X.heap.size X w' := fun X hX => by
  have := few_any A ls cap n total A2 ms cap2 n2 X B (h2.keep (hX.mono hB) (Nat.le_refl _)) (by have := hX.size; omega) hn hn2 hl hl2
  rwa [hr] at this
theorem to_in (h : Elems tPst w B A ps) (hB : B ≤ w.heap.size) (hn : n = ps.length) (hl : n ≤ 1000) (hb : ∀ p ∈ ps, -3000000000 ≤ p.2 ∧ p.2 ≤ 3000000000) (kd : Int) (nm : ByteArray) (v : Int) (hv : toP ps kd nm = v) :
    ∀ X, Below w.heap.size w X → Calls Try.prog 20 #[.agg #[.int .i64 0, .slice A n cap], .int .i64 kd, .string nm] X fun e w' => e = .returned (.int .i64 v) ∧ Below X.heap.size X w' := fun X hX => by
  have := to_any A ps cap n kd nm X B (h.keep (hX.mono hB) (Nat.le_refl _)) (by have := hX.size; omega) hn hl hb
  rwa [hv] at this
theorem lof_in (h : Elems tLine w B A ls) (hB : B ≤ w.heap.size) (hn : ls.length = n) (hl : n ≤ 60) (hall : ls.all lineB = true) (q : Int) (hq : q ≠ 0) (v : Int) (hv : partOf q ls = v) :
    ∀ X, Below w.heap.size w X → Calls Try.prog 21 #[.agg #[.slice A n cap, .int .i64 total], .int .i64 q] X fun e w' => e = .returned (.int .i64 v) ∧ Below X.heap.size X w' := fun X hX => by
  have := lof_any A ls cap n total q X B (h.keep (hX.mono hB) (Nat.le_refl _)) (by have := hX.size; omega) hn hl hall hq
  rwa [hv] at this
theorem sameb_in {A1 A2 : Option Addr} {xs ys : List Pst} {w : World} {B1 B2 n1 n2 : Nat} (h1 : Elems tPst w B1 A1 xs) (h2 : Elems tPst w B2 A2 ys) (hB1 : B1 ≤ w.heap.size) (hB2 : B2 ≤ w.heap.size) (hn1 : n1 = xs.length) (hn2 : n2 = ys.length) (hl1 : n1 ≤ 100000) (hl2 : n2 ≤ 100000) (c1 c2 : Nat) (r : Bool) (hr : decide (xs = ys) = r) :
    ∀ X, Below w.heap.size w X → Calls Try.prog 18 #[.agg #[.int .i64 0, .slice A1 n1 c1], .agg #[.int .i64 0, .slice A2 n2 c2]] X fun e w' => e = .returned (.bool r) ∧ Below X.heap.size X w' := fun X hX => by
  have hs := hX.size
  have := same_any A1 A2 xs ys n1 c1 n2 c2 X w.heap.size (h1.keep (hX.mono hB1) hB1) (h2.keep (hX.mono hB2) hB2) hs hn1 hn2 hl1 hl2
  rwa [hr] at this
end

/-! ### plain -/
theorem fewD_out {ls : List Ln} {ms : List Mn} (h : fewD ls ms = true) : ls.length ≤ 60 ∧ ms.length ≤ 30 := by
  unfold fewD at h
  simp only [Bool.and_eq_true, decide_eq_true_eq] at h
  exact h.1
theorem sale0 {ls : List Ln} {total : Int} {pn : ByteArray} {ms : List Mn} (h : saleE ls total pn ms = 0) : rightB ls total = true ∧ nameB pn = true ∧ totB ms = true ∧ sumM ms = total := by
  unfold saleE at h
  by_cases h1 : (rightB ls total && nameB pn && totB ms) = true
  · rw [if_pos h1] at h
    by_cases h2 : sumM ms = total
    · simp only [Bool.and_eq_true] at h1
      exact ⟨h1.1.1, h1.1.2, h1.2, h2⟩
    · rw [if_neg h2] at h; exact absurd h (by decide)
  · rw [if_neg h1] at h; exact absurd h (by decide)
theorem post_mem {ps : List Pst} {p : Pst} (h : p ∈ postL ps) : p ∈ ps := (List.mem_filter.1 h).1
theorem post_len (ps : List Pst) : (postL ps).length ≤ ps.length := List.length_filter_le _ _
theorem pay_bd {ms : List Mn} {s : Int} (h : okM ms = true) (hs : s = 1 ∨ s = -1) : ∀ p ∈ payL ms s, -3000000000 ≤ p.2 ∧ p.2 ≤ 3000000000 := fun p hp => by
  have := post_mem hp
  rw [List.mem_map] at this
  obtain ⟨m, hm, rfl⟩ := this
  have := okM_in h m hm
  rcases hs with rfl | rfl <;> constructor <;> simp only <;> omega
theorem parts_bd {a b c : Int} (h : (-3000000000 ≤ a ∧ a ≤ 3000000000) ∧ (-3000000000 ≤ b ∧ b ≤ 3000000000) ∧ (-3000000000 ≤ c ∧ c ≤ 3000000000)) : ∀ p ∈ partsL a b c, -3000000000 ≤ p.2 ∧ p.2 ≤ 3000000000 := fun p hp => by
  have := post_mem hp
  simp only [List.mem_cons, List.not_mem_nil, or_false] at this
  rcases this with rfl | rfl | rfl
  · exact h.1
  · exact h.2.1
  · exact h.2.2
theorem saleL_bd {ls : List Ln} {total : Int} {pn : ByteArray} {ms : List Mn} : ∀ p ∈ saleL ls total pn ms, -3000000000 ≤ p.2 ∧ p.2 ≤ 3000000000 := fun p hp => by
  unfold saleL at hp
  by_cases h : saleE ls total pn ms = 0
  · rw [if_pos h, List.mem_append] at hp
    obtain ⟨h1, h2, h3, h4⟩ := sale0 h
    obtain ⟨hall, hsum, ht0, ht1⟩ := right_out h1
    have b1 := partOf_bd 1 ls hall
    have b2 := partOf_bd 2 ls hall
    have b3 := partOf_bd 3 ls hall
    rcases hp with hp | hp
    · exact pay_bd (totB_out h3).2 (.inr rfl) p hp
    · exact parts_bd ⟨by omega, by omega, by omega⟩ p hp
  · rw [if_neg h] at hp; cases hp
theorem saleL_len (ls : List Ln) (total : Int) (pn : ByteArray) (ms : List Mn) : (saleL ls total pn ms).length ≤ 15 := by
  unfold saleL
  by_cases h : saleE ls total pn ms = 0
  · rw [if_pos h, List.length_append]
    have h1 := post_len (ms.map fun m => (((5 : Int), m.1), -1 * m.2))
    have h2 := post_len [((2, noName), partOf 1 ls), ((1, noName), partOf 2 ls), ((3, noName), partOf 3 ls)]
    have h3 := (totB_out (sale0 h).2.2.1).1
    rw [List.length_map] at h1
    unfold payL partsL
    simp only [List.length_cons, List.length_nil] at h2
    omega
  · rw [if_neg h]; simp
theorem sale_to {ls : List Ln} {total : Int} {pn : ByteArray} {ms : List Mn} (h : saleE ls total pn ms = 0) : toP (saleL ls total pn ms) 2 noName = partOf 1 ls ∧ toP (saleL ls total pn ms) 1 noName = partOf 2 ls ∧ toP (saleL ls total pn ms) 3 noName = partOf 3 ls := by
  unfold saleL
  rw [if_pos h]
  refine ⟨?_, ?_, ?_⟩ <;> rw [toP_app, toP_pay_other _ _ _ _ (by decide), toP_parts] <;> simp
theorem sale_to_mean {ls : List Ln} {total : Int} {pn : ByteArray} {ms : List Mn} (h : saleE ls total pn ms = 0) {i : Nat} {m : Mn} (hi : ms[i]? = some m) : toP (saleL ls total pn ms) 5 m.1 = -m.2 := by
  unfold saleL
  rw [if_pos h, toP_app, toP_pay_at (totB_out (sale0 h).2.2.1).2 _ hi, toP_parts_means]
  omega
end Go.Proofs.Ytggmihnhdojepaa
