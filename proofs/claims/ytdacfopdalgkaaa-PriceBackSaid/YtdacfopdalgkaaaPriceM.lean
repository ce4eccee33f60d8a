/- Layer 17 (price): how the arguments are opened. -/
import Derived.Test.YtdacfopdalgkaaaPriceL
namespace Go.Proofs.Ytdacfopdalgkaaa
open Go.RowKit Go.ChangeAt
set_option linter.unusedVariables false
set_option linter.unusedSimpArgs false
attribute [local go_sem] ext_cell ext_frozen lt_ext ext_drew

theorem own : ownKnob Try.prog.godebug = none := by kernel_rfl
theorem laidOut : laidOutB Try.prog = true := by kernel_rfl

abbrev tRat : Ty (Int × Int) := tPair tInt tInt
abbrev tBill : Ty (List Ln × Int) := tPair (tSlice tLine) tInt
abbrev tDec := tPair tBool (tPair tBool (tPair tBool (tPair tInt (tPair tInt (tPair tRat (tPair tRat (tPair tRat (tPair tRat (tPair tRat tInt)))))))))
theorem opensI : Opens Try.prog 3 tInt := opens_int Try.underlying3 (by kernel_rfl)
theorem opensB : Opens Try.prog 4 tBool := opens_bool Try.underlying4 (by kernel_rfl)
theorem opensRat : Opens Try.prog 23 tRat := opens_struct Try.underlying23 (by kernel_rfl) (.cons rfl opensI (.one rfl opensI))
theorem opensLine : Opens Try.prog 38 tLine := opens_struct Try.underlying38 (by kernel_rfl) (.cons rfl opensI (.one rfl opensI))
theorem opensLines : Opens Try.prog 26 (tSlice tLine) := opens_slice Try.underlying26 (by kernel_rfl) (by decide) opensLine
theorem opensBill : Opens Try.prog 28 tBill := opens_struct Try.underlying28 (by kernel_rfl) (.cons rfl opensLines (.one rfl opensI))
theorem opensDec : Opens Try.prog 25 tDec := opens_struct Try.underlying25 (by kernel_rfl)
  (.cons rfl opensB (.cons rfl opensB (.cons rfl opensB (.cons rfl opensI (.cons rfl opensI (.cons rfl opensRat (.cons rfl opensRat (.cons rfl opensRat (.cons rfl opensRat (.cons rfl opensRat (.one rfl opensI)))))))))))

theorem dec_of {w : World} {B : Nat} {cs : Array Value} {x} (h : tDec.rd w B cs.toList x) : ∃ (al to si : Bool) (lim price fn fd tn td cn cd sn sd rn rd y : Int), cs = decCells al to si lim price fn fd tn td cn cd sn sd rn rd y ∧ fits price ∧ fits fn ∧ fits fd := by
  obtain ⟨al, to, si, lim, price, ⟨fn, fd⟩, ⟨tn, td⟩, ⟨cn, cd⟩, ⟨sn, sd⟩, ⟨rn, rd⟩, y⟩ := x
  obtain ⟨c1, r1, e1, rfl, c2, r2, rfl, rfl, c3, r3, rfl, rfl, c4, r4, rfl, ⟨rfl, _⟩, c5, r5, rfl, ⟨rfl, hp⟩, c6, r6, rfl, ⟨a1, b1, rfl, ⟨rfl, h1⟩, ⟨rfl, h2⟩⟩, c7, r7, rfl, ⟨a2, b2, rfl, ⟨rfl, _⟩, ⟨rfl, _⟩⟩, c8, r8, rfl, ⟨a3, b3, rfl, ⟨rfl, _⟩, ⟨rfl, _⟩⟩,
    c9, r9, rfl, ⟨a4, b4, rfl, ⟨rfl, _⟩, ⟨rfl, _⟩⟩, c10, r10, rfl, ⟨a5, b5, rfl, ⟨rfl, _⟩, ⟨rfl, _⟩⟩, rfl, _⟩ := h
  refine ⟨al, to, si, lim, price, fn, fd, tn, td, cn, cd, sn, sd, rn, rd, y, ?_, hp, h1, h2⟩
  cases cs
  simp only at e1
  rw [e1]
  rfl
theorem bill_of {w : World} {B : Nat} {cs : Array Value} {x : List Ln × Int} (h : tBill.rd w B cs.toList x) : ∃ A cap, cs = #[.slice A x.1.length cap, .int .i64 x.2] ∧ x.1.length ≤ cap ∧ cap ≤ maxLen ∧ Elems tLine w B A x.1 ∧ fits x.2 := by
  obtain ⟨c1, r1, e1, ⟨A, cap, rfl, h1, h2, h3⟩, ⟨rfl, h4⟩⟩ := h
  refine ⟨A, cap, ?_, h1, h2, h3, h4⟩
  cases cs
  simp only at e1
  rw [e1]
  rfl
theorem rat_of {w : World} {B : Nat} {cs : Array Value} {x : Int × Int} (h : tRat.rd w B cs.toList x) : cs = #[.int .i64 x.1, .int .i64 x.2] ∧ fits x.1 ∧ fits x.2 := by
  obtain ⟨c1, r1, e1, ⟨rfl, h3⟩, ⟨rfl, h4⟩⟩ := h
  refine ⟨?_, h3, h4⟩
  cases cs
  simp only at e1
  rw [e1]
  rfl

theorem quote_is (err : Int) (L : List Ln) (al to si : Bool) (lim price fn fd tn td cn cd sn sd rn rd y n : Int) (w : World) (h1 : Hid (quoteE al price fn fd tn td n = err)) (h2 : Hid (quoteL al price fn fd tn td n = L)) :
    Calls Try.prog 10 #[.agg #[.bool al, .bool to, .bool si, .int .i64 lim, .int .i64 price, .int .i64 fn, .int .i64 fd, .int .i64 tn, .int .i64 td, .int .i64 cn, .int .i64 cd, .int .i64 sn, .int .i64 sd, .int .i64 rn, .int .i64 rd, .int .i64 y], .int .i64 n] w (Quoted w err L) := by
  have h := quote_any al to si lim price fn fd tn td cn cd sn sd rn rd y n w
  rwa [h1.out, h2.out] at h
theorem back_is (v e' : Int) (A : Option Addr) (ls : List Ln) (cap n : Nat) (total num den : Int) (w : World) (B : Nat) (h : Elems tLine w B A ls) (hB : B ≤ w.heap.size) (hn : ls.length = n) (hl : n ≤ 60) (ht : fits total) (h1 : Hid (backV 0 ls total num den = v)) (h2 : Hid (backE 0 ls total num den = e')) :
    Calls Try.prog 12 #[.agg #[.slice A n cap, .int .i64 total], .agg #[.int .i64 num, .int .i64 den]] w fun e w' => e = .returned (.tuple #[.int .i64 v, .int .i64 e']) ∧ Below w.heap.size w w' := by
  have := back_any A ls cap n total num den w B h hB hn hl ht
  rwa [h1.out, h2.out] at this
theorem top_is (v e' : Int) (A : Option Addr) (ls : List Ln) (cap n : Nat) (total num den : Int) (w : World) (B : Nat) (h : Elems tLine w B A ls) (hB : B ≤ w.heap.size) (hn : ls.length = n) (hl : n ≤ 60) (ht : fits total) (h1 : Hid (backV 1 ls total num den = v)) (h2 : Hid (backE 1 ls total num den = e')) :
    Calls Try.prog 14 #[.agg #[.slice A n cap, .int .i64 total], .agg #[.int .i64 num, .int .i64 den]] w fun e w' => e = .returned (.tuple #[.int .i64 v, .int .i64 e']) ∧ Below w.heap.size w w' := by
  have := top_any A ls cap n total num den w B h hB hn hl ht
  rwa [h1.out, h2.out] at this
theorem rback_is (v e' : Int) (A : Option Addr) (ls : List Ln) (cap n : Nat) (total num den : Int) (w : World) (B : Nat) (h : Elems tLine w B A ls) (hB : B ≤ w.heap.size) (hn : ls.length = n) (hl : n ≤ 60) (ht : fits total) (h1 : Hid (backV 0 ls total num den = v)) (h2 : Hid (backE 0 ls total num den = e')) :
    Calls Try.prog 13 #[.agg #[.slice A n cap, .int .i64 total], .agg #[.int .i64 num, .int .i64 den]] w fun e w' => e = .returned (.tuple #[.int .i64 v, .int .i64 e']) ∧ Below w.heap.size w w' := by
  have := rback_any A ls cap n total num den w B h hB hn hl ht
  rwa [h1.out, h2.out] at this
theorem rtop_is (v e' : Int) (A : Option Addr) (ls : List Ln) (cap n : Nat) (total num den : Int) (w : World) (B : Nat) (h : Elems tLine w B A ls) (hB : B ≤ w.heap.size) (hn : ls.length = n) (hl : n ≤ 60) (ht : fits total) (h1 : Hid (backV 1 ls total num den = v)) (h2 : Hid (backE 1 ls total num den = e')) :
    Calls Try.prog 15 #[.agg #[.slice A n cap, .int .i64 total], .agg #[.int .i64 num, .int .i64 den]] w fun e w' => e = .returned (.tuple #[.int .i64 v, .int .i64 e']) ∧ Below w.heap.size w w' := by
  have := rtop_any A ls cap n total num den w B h hB hn hl ht
  rwa [h1.out, h2.out] at this
theorem rquote_is (err : Int) (L : List Ln) (al to si : Bool) (lim price fn fd tn td cn cd sn sd rn rd y n : Int) (w : World) (h1 : Hid (quoteE al price fn fd tn td n = err)) (h2 : Hid (quoteL al price fn fd tn td n = L)) :
    Calls Try.prog 11 #[.agg #[.bool al, .bool to, .bool si, .int .i64 lim, .int .i64 price, .int .i64 fn, .int .i64 fd, .int .i64 tn, .int .i64 td, .int .i64 cn, .int .i64 cd, .int .i64 sn, .int .i64 sd, .int .i64 rn, .int .i64 rd, .int .i64 y], .int .i64 n] w (Quoted w err L) := by
  have h := rquote_any al to si lim price fn fd tn td cn cd sn sd rn rd y n w
  rwa [h1.out, h2.out] at h
theorem quoteL_len (al : Bool) (price fn fd tn td n : Int) : (quoteL al price fn fd tn td n).length ≤ 3 := by
  unfold quoteL; split <;> simp
end Go.Proofs.Ytdacfopdalgkaaa
