/- Layer 1 (money): Split, by three weights. -/
import Derived.Test.YtggmihnhdojepaaDealJ
namespace Go.Proofs.Ytggmihnhdojepaa
open Go.RowKit
set_option linter.unusedVariables false
set_option linter.unusedSimpArgs false
attribute [local go_sem] ext_cell ext_frozen lt_ext ext_drew

section
variable {P : Program} {w : World} {a : Addr} {m : Mode}
theorem run_store_func (f : Fn) (xs ys : Array Value) : (store a (.func f xs ys) m).run P w = stored P w a (.func f xs ys) m := run_store P w a _ m rfl
end
attribute [local go_sem] run_store_func

/-! ### in plain numbers -/
def leftP (n a b c : Int) : Int := n - (n * a / (a + b + c) + n * b / (a + b + c) + n * c / (a + b + c))
def incN (o : Nat × Nat × Nat) (l : Int) (i : Nat) : Int := if (1 ≤ l ∧ o.1 = i) ∨ (2 ≤ l ∧ o.2.1 = i) then 1 else 0
def ordP (n a b c : Int) : Nat × Nat × Nat := ord3 (n * a % (a + b + c)) (n * b % (a + b + c)) (n * c % (a + b + c))
def splitP (n a b c : Int) : Int × Int × Int :=
  (n * a / (a + b + c) + incN (ordP n a b c) (leftP n a b c) 0, n * b / (a + b + c) + incN (ordP n a b c) (leftP n a b c) 1, n * c / (a + b + c) + incN (ordP n a b c) (leftP n a b c) 2)
theorem left_rest (n a b c : Int) (h : 0 < a + b + c) : (a + b + c) * leftP n a b c = n * a % (a + b + c) + n * b % (a + b + c) + n * c % (a + b + c) := by
  unfold leftP
  have h1 := Int.mul_ediv_add_emod (n * a) (a + b + c)
  have h2 := Int.mul_ediv_add_emod (n * b) (a + b + c)
  have h3 := Int.mul_ediv_add_emod (n * c) (a + b + c)
  rw [Int.mul_sub, Int.mul_add, Int.mul_add]
  have h4 : (a + b + c) * n = n * a + n * b + n * c := by rw [Int.mul_comm, Int.mul_add, Int.mul_add]
  omega
theorem left_bd (n a b c : Int) (h : 0 < a + b + c) : 0 ≤ leftP n a b c ∧ leftP n a b c ≤ 2 := by
  have h0 := left_rest n a b c h
  have h1 := Int.emod_nonneg (n * a) (show a + b + c ≠ 0 by omega)
  have h2 := Int.emod_lt_of_pos (n * a) h
  have h3 := Int.emod_nonneg (n * b) (show a + b + c ≠ 0 by omega)
  have h4 := Int.emod_lt_of_pos (n * b) h
  have h5 := Int.emod_nonneg (n * c) (show a + b + c ≠ 0 by omega)
  have h6 := Int.emod_lt_of_pos (n * c) h
  generalize leftP n a b c = l at *
  generalize a + b + c = s at *
  constructor
  · apply Int.not_lt.1
    intro hl
    have := Int.mul_le_mul_of_nonneg_left (show l ≤ -1 by omega) (show 0 ≤ s by omega)
    omega
  · apply Int.not_lt.1
    intro hl
    have := Int.mul_le_mul_of_nonneg_left (show 3 ≤ l by omega) (show 0 ≤ s by omega)
    omega
theorem prod_bd {n x : Int} (hn : goodW n) (hx : goodW x) : 0 ≤ n * x ∧ n * x ≤ 1000000000000000000 := by
  obtain ⟨h1, h2⟩ := hn
  obtain ⟨h3, h4⟩ := hx
  refine ⟨Int.mul_nonneg h1 h3, ?_⟩
  have := Int.mul_le_mul h2 h4 h3 (show (0:Int) ≤ 1000000000 by omega)
  omega

theorem quo_bd {n x X al : Int} (hX : n * x = X) (hn : 0 ≤ n) (hx : 0 ≤ x) (hxa : x ≤ al) (ha : 0 < al) : 0 ≤ X / al ∧ X / al ≤ n := by
  have h0 : 0 ≤ X := by rw [← hX]; exact Int.mul_nonneg hn hx
  refine ⟨Int.ediv_nonneg h0 (by omega), ?_⟩
  have h1 : X ≤ n * al := by rw [← hX]; exact Int.mul_le_mul_of_nonneg_left hxa hn
  exact Int.ediv_le_of_le_mul ha h1
theorem three_elems {w : World} {lb : Nat} {tl : TypeId} {a b c : Int} (h : Bk w lb #[.int .i64 a, .int .i64 b, .int .i64 c] tl) (ha : goodW a) (hb : goodW b) (hc : goodW c) : Elems tInt w w.heap.size (some ⟨lb, 0, none⟩) [a, b, c] := by
  obtain ⟨a1, a2⟩ := ha
  obtain ⟨b1, b2⟩ := hb
  obtain ⟨c1, c2⟩ := hc
  refine Elems.of_block (t := tl) [[.int .i64 a], [.int .i64 b], [.int .i64 c]] h h.lt rfl (fun i hi => ?_) rfl
  have h3 : i = 0 ∨ i = 1 ∨ i = 2 := by simp at hi; omega
  rcases h3 with rfl | rfl | rfl
  · exact ⟨rfl, by show _ ≤ a ∧ a ≤ _; omega⟩
  · exact ⟨rfl, by show _ ≤ b ∧ b ≤ _; omega⟩
  · exact ⟨rfl, by show _ ≤ c ∧ c ≤ _; omega⟩

set_option maxRecDepth 100000 in
theorem made3 : madeCells (#[.int .i64 0] : Array Value) (Int.toNat 3 * 1) = #[.int .i64 0, .int .i64 0, .int .i64 0] := by
  first
    | rfl
    | (simp [madeCells, Array.range]; done)
    | (apply Array.ext'; simp [madeCells, Array.range]; done)
    | (unfold madeCells; simp; decide)
    | kernel_rfl
theorem mk3 (w : World) : (Instr.makeSlice 58 (.int .i64 3) (.int .i64 3)).run Try.prog w = .ok (.slice (some ⟨w.heap.size, 0, none⟩) 3 3) (w.alloc (.cells #[.int .i64 0, .int .i64 0, .int .i64 0] 3)) := by
  obtain ⟨i, z, i1, i2, i3, i4, i5⟩ := info_of (P := Try.prog) (e := 3) (size := 1) (bytes := 8) (c := 1) (by kernel_rfl)
  have hz : z.cells = #[.int .i64 0] := by
    have h : ((Try.prog.info? 3).bind (·.zero)).map (·.cells) = some #[.int .i64 0] := by kernel_rfl
    rw [i1] at h
    simp only [Option.bind_some] at h
    rw [i2] at h
    simpa using h
  rw [run_makeSlice w 58 3 i z Try.underlying58 i1 i2 .i64 .i64 3 3 (by omega) (by omega) (by rw [i3]; decide) (by rw [i4]; decide) (by omega), hz, i3, made3]
  rfl

/-- slices.SortStableFunc at three. -/
theorem stable_any {W : World} {ps pn pw pa pf lb : Nat} {tl : TypeId} {cp : Nat} {n a b c al : Int} (ob : Nat) (X1 X2 X3 : Int) (h : SpIs W ps pn pw pa pf lb tl cp n a b c al) (ho : Bk W ob #[.int .i64 0, .int .i64 1, .int .i64 2] 3) (hob : ob ≠ ps ∧ ob ≠ pn ∧ ob ≠ pw ∧ ob ≠ pa ∧ ob ≠ pf ∧ ob ≠ lb) (co : Nat)
    (e1 : n * a = X1) (e2 : n * b = X2) (e3 : n * c = X3) (x1 : 0 ≤ X1 ∧ X1 ≤ 1000000000000000000) (x2 : 0 ≤ X2 ∧ X2 ≤ 1000000000000000000) (x3 : 0 ≤ X3 ∧ X3 ≤ 1000000000000000000) (h3 : 0 < al) (h4 : al ≤ 1000000000) (hn : goodW n) :
    Calls Try.prog 58 #[.slice (some ⟨ob, 0, none⟩) 3 co, .func (.func 59) #[] #[.pointer (some ⟨pf, 0, none⟩)]] W
      fun e w' => e = .returned (.tuple #[]) ∧ Bk w' ob #[.int .i64 ((ord3 (X1 % al) (X2 % al) (X3 % al)).1 : Int), .int .i64 ((ord3 (X1 % al) (X2 % al) (X3 % al)).2.1 : Int), .int .i64 ((ord3 (X1 % al) (X2 % al) (X3 % al)).2.2 : Int)] 3 ∧ Only (fun g => g = ob) W w' := by
  have hi := ins_any ob X1 X2 X3 h ho hob co e1 e2 e3 x1 x2 x3 h3 h4 hn
  have hst : Calls Try.prog 63 #[.slice (some ⟨ob, 0, none⟩) 3 co, .int .i64 3, .func (.func 59) #[] #[.pointer (some ⟨pf, 0, none⟩)]] W
      fun e w' => e = .returned (.tuple #[]) ∧ Bk w' ob #[.int .i64 ((ord3 (X1 % al) (X2 % al) (X3 % al)).1 : Int), .int .i64 ((ord3 (X1 % al) (X2 % al) (X3 % al)).2.1 : Int), .int .i64 ((ord3 (X1 % al) (X2 % al) (X3 % al)).2.2 : Int)] 3 ∧ Only (fun g => g = ob) W w' := by
    have HI := Lib.hid hi
    clear hi h ho hob x1 x2 x3 h3 h4 hn
    go_enter Try.func63, Try.ntmps63
    go_wp2_with fail
    refine wp_loop_rounds 1 ?_
    rw [rounds_succ]
    go_wp2_with fail
    refine HI.out.mono ?_
    rintro e w2 ⟨rfl, y1, y2⟩
    have HY := Lib.hid (And.intro y1 y2)
    clear y1 y2
    go_wp2_with fail
    refine wp_loop_rounds 1 ?_
    rw [rounds_succ]
    go_wp2_with fail
    go_end0
    exact ⟨rfl, HY.out.1, HY.out.2⟩
  have HI := Lib.hid hst
  clear hst hi h ho hob x1 x2 x3 h3 h4 hn
  go_enter Try.func58, Try.ntmps58
  go_wp2_with fail
  refine HI.out.mono ?_
  rintro e w2 ⟨rfl, y1, y2⟩
  have HY := Lib.hid (And.intro y1 y2)
  clear y1 y2
  go_wp2_with fail
  go_end0
  exact ⟨rfl, HY.out.1, HY.out.2⟩

theorem ord3_in {r1 r2 r3 : Int} {o1 o2 o3 : Nat} (h : ord3 r1 r2 r3 = (o1, o2, o3)) : (o1, o2, o3) = (0, 1, 2) ∨ (o1, o2, o3) = (0, 2, 1) ∨ (o1, o2, o3) = (1, 0, 2) ∨ (o1, o2, o3) = (1, 2, 0) ∨ (o1, o2, o3) = (2, 0, 1) ∨ (o1, o2, o3) = (2, 1, 0) := by
  rw [← h]
  unfold ord3
  repeat' split
  all_goals simp

theorem incN_bd (o : Nat × Nat × Nat) (l : Int) (i : Nat) : 0 ≤ incN o l i ∧ incN o l i ≤ 1 := by unfold incN; split <;> omega
theorem set_eq2 {w : World} {b : Nat} {C C' : Array Value} {t : TypeId} {i : Nat} {u : Value} (h : Bk w b C t) (hC : C.setIfInBounds i u = C') : Bk (w.setCell ⟨b, i, none⟩ u) b C' t := hC ▸ h.set_ i u

def Splitted (w : World) (n a b c : Int) (e : Ending) (w' : World) : Prop :=
  ∃ ob, e = .returned (.tuple #[.slice (some ⟨ob, 0, none⟩) 3 3, .int .i64 0]) ∧ Bk w' ob #[.int .i64 (splitP n a b c).1, .int .i64 (splitP n a b c).2.1, .int .i64 (splitP n a b c).2.2] 3 ∧ Below w.heap.size w w'

set_option maxRecDepth 100000 in
set_option maxHeartbeats 4000000 in
theorem split_any (n a b c : Int) (lb : Nat) (tl : TypeId) (cp : Nat) (w : World) (h : Bk w lb #[.int .i64 a, .int .i64 b, .int .i64 c] tl) (hn : goodW n) (ha : goodW a) (hb : goodW b) (hc : goodW c) (h0 : 0 < a + b + c) (h1 : a + b + c ≤ 1000000000) :
    Calls Try.prog 43 #[.int .i64 n, .slice (some ⟨lb, 0, none⟩) 3 cp] w (Splitted w n a b c) := by
  have HH := Lib.hid h
  have HG := Lib.hid (And.intro hn (And.intro ha (And.intro hb hc)))
  obtain ⟨n1, n2⟩ := hn
  obtain ⟨a1, a2⟩ := ha
  obtain ⟨b1, b2⟩ := hb
  obtain ⟨c1, c2⟩ := hc
  have hlb := h.lt
  have hcon : Hid (∀ W', Below w.heap.size w W' → (Calls Try.prog 55 #[.slice (some ⟨lb, 0, none⟩) 3 cp, .func (.func 54) #[] #[]] W' fun e w' => e = .returned (.bool false) ∧ W' = w') ∧
      (Calls Try.prog 56 #[.slice (some ⟨lb, 0, none⟩) 3 cp] W' fun e w' => e = .returned (.int .i64 (a + b + c)) ∧ W' = w')) := Lib.hid fun W' hW => by
    have he := three_elems (h.below hW) HG.out.2.1 HG.out.2.2.1 HG.out.2.2.2
    have hv : ([a, b, c].all validB) = true := by
      simp only [List.all_cons, List.all_nil, Bool.and_true, Bool.and_eq_true]
      exact ⟨validB_in (by omega), validB_in (by omega), validB_in (by omega)⟩
    have hs : sumI [a, b, c] = a + b + c := by simp [sumI]
    refine ⟨containsW_any W' _ 3 _ cp [a, b, c] he rfl (by omega) (fun z hz => ?_), sum_is (a + b + c) W' _ 3 _ cp [a, b, c] he rfl (by omega) (Lib.hid hv) (Lib.hid hs)⟩
    simp only [List.mem_cons, List.not_mem_nil, or_false] at hz
    rcases hz with rfl | rfl | rfl
    · exact HG.out.2.1
    · exact HG.out.2.2.1
    · exact HG.out.2.2.2
  have Hval : Hid (validB n = true) := Lib.hid (validB_in (by omega))
  obtain ⟨al, hal⟩ : ∃ s, a + b + c = s := ⟨_, rfl⟩
  obtain ⟨X1, hX1⟩ : ∃ x, n * a = x := ⟨_, rfl⟩
  obtain ⟨X2, hX2⟩ : ∃ x, n * b = x := ⟨_, rfl⟩
  obtain ⟨X3, hX3⟩ : ∃ x, n * c = x := ⟨_, rfl⟩
  have px1 := prod_bd HG.out.1 HG.out.2.1
  have px2 := prod_bd HG.out.1 HG.out.2.2.1
  have px3 := prod_bd HG.out.1 HG.out.2.2.2
  rw [hX1] at px1
  rw [hX2] at px2
  rw [hX3] at px3
  obtain ⟨px1, px1'⟩ := px1
  obtain ⟨px2, px2'⟩ := px2
  obtain ⟨px3, px3'⟩ := px3
  rw [hal] at hcon h0 h1
  have hmk := mk3
  clear h
  go_enter Try.func43, Try.ntmps43
  go_upto_region 12 with (first
    | (go_at_call 55; refine Calls.mono (hcon.out _ ?bel).1 ?_; (case bel => (repeat (first | with_reducible exact Below.refl _ _ | with_reducible assumption | with_reducible refine Below.alloc0 ?_ _ | with_reducible refine Below.ext0 ?_ _ | with_reducible refine Below.drew ?_ | with_reducible refine below_drewN ?_ _ | (with_reducible refine Below.setCell (hp := ?hp) ?_ _; case hp => (first | (simp; done) | (simp; omega)))))); rintro e w' ⟨rfl, rfl⟩)
    | (go_at_call 56; refine Calls.mono (hcon.out _ ?bel).2 ?_; (case bel => (repeat (first | with_reducible exact Below.refl _ _ | with_reducible assumption | with_reducible refine Below.alloc0 ?_ _ | with_reducible refine Below.ext0 ?_ _ | with_reducible refine Below.drew ?_ | with_reducible refine below_drewN ?_ _ | (with_reducible refine Below.setCell (hp := ?hp) ?_ _; case hp => (first | (simp; done) | (simp; omega)))))); rintro e w' ⟨rfl, rfl⟩)
    | (go_at_call 47; refine (valid_is _ _ _ Hval).mono ?_; rintro e w' ⟨rfl, rfl⟩))
  refine forget (fun Y => Below w.heap.size w Y ∧ Bk Y w.heap.size #[.int .i64 n] 3 ∧ Bk Y (w.heap.size + 1) #[.slice (some ⟨lb, 0, none⟩) 3 cp] 58 ∧ Bk Y (w.heap.size + 2) #[.int .i64 al] 3 ∧ Bk Y (w.heap.size + 3) #[.int .i64 1] 3 ∧ Bk Y (w.heap.size + 4) #[.int .i64 0, .int .i64 0, .int .i64 0] 3 ∧ Bk Y (w.heap.size + 5) #[.int .i64 0, .int .i64 0, .int .i64 0] 3 ∧ Y.heap.size = w.heap.size + 6) ⟨?_, ?_, ?_, ?_, ?_, ?_, ?_, ?_⟩ ?_
  · (repeat (first | with_reducible exact Below.refl _ _ | with_reducible assumption | with_reducible refine Below.alloc0 ?_ _ | with_reducible refine Below.ext0 ?_ _ | with_reducible refine Below.drew ?_ | with_reducible refine below_drewN ?_ _ | (with_reducible refine Below.setCell (hp := ?hp) ?_ _; case hp => (first | (simp; done) | (simp; omega)))))
  · exact (((((Bk.new w _ _).alloc _).alloc _).alloc _).alloc _).alloc _
  · exact ((((bk_new_at _ _ _ _ (by simp)).alloc _).alloc _).alloc _).alloc _
  · exact (((bk_new_at _ _ _ _ (by simp)).alloc _).alloc _).alloc _
  · exact ((bk_new_at _ _ _ _ (by simp)).alloc _).alloc _
  · exact (bk_new_at _ _ _ _ (by simp)).alloc _
  · exact bk_new_at _ _ _ _ (by simp)
  · simp
  clear hcon hmk
  rintro Y ⟨hw, b0, b1, b2, b3, b4, b5, hsz⟩
  obtain ⟨g, hg⟩ : ∃ g, w.heap.size = g := ⟨_, rfl⟩
  rw [hg] at hlb hw b0 b1 b2 b3 b4 b5 hsz ⊢
  have b6 := HH.out.below' hw (by omega)
  have c0 := b0.cell
  have c1 := b1.cell
  have c2 := b2.cell
  have c3 := b3.cell
  have c4 := b4.cell
  have c5 := b5.cell
  have c6 := b6.cell
  have l0 := b0.lt
  have l1 := b1.lt
  have l2 := b2.lt
  have l3 := b3.lt
  have l4 := b4.lt
  have l5 := b5.lt
  have l6 := b6.lt
  have f4 := b4.free
  have f5 := b5.free
  have HY := Lib.hid (And.intro hw (And.intro b0 (And.intro b1 (And.intro b2 (And.intro b3 (And.intro b4 (And.intro b5 b6)))))))
  have Hsz := Lib.hid hsz
  obtain ⟨Q1, hQ1⟩ : ∃ q, X1 / al = q := ⟨_, rfl⟩
  obtain ⟨Q2, hQ2⟩ : ∃ q, X2 / al = q := ⟨_, rfl⟩
  obtain ⟨Q3, hQ3⟩ : ∃ q, X3 / al = q := ⟨_, rfl⟩
  have q1 : 0 ≤ Q1 ∧ Q1 ≤ n := hQ1 ▸ quo_bd hX1 (by omega) (by omega) (by omega) h0
  have q2 : 0 ≤ Q2 ∧ Q2 ≤ n := hQ2 ▸ quo_bd hX2 (by omega) (by omega) (by omega) h0
  have q3 : 0 ≤ Q3 ∧ Q3 ≤ n := hQ3 ▸ quo_bd hX3 (by omega) (by omega) (by omega) h0
  obtain ⟨q1, q1'⟩ := q1
  obtain ⟨q2, q2'⟩ := q2
  obtain ⟨q3, q3'⟩ := q3
  clear hw b0 b1 b2 b3 b4 b5 b6 hsz c0 c2 c3 c4 c5 c6 l0 l2 l3 l4 l5 l6 f4 f5
  go_wp2_with fail
  clear c1 l1
  refine wp_loop_rounds 4 ?_
  rw [rounds_succ]
  refine forget (fun Z => Bk Z (g + 4) #[.int .i64 0, .int .i64 0, .int .i64 0] 3 ∧ Bk Z (g + 5) #[.int .i64 0, .int .i64 0, .int .i64 0] 3 ∧ Only (fun b => b = g + 4 ∨ b = g + 5) Y Z) ⟨?_, ?_, ?_⟩ ?_
  · exact HY.out.2.2.2.2.2.1
  · exact HY.out.2.2.2.2.2.2.1
  · exact Only.refl _ _
  rintro Z ⟨b4, b5, ho⟩
  have c0 := (HY.out.2.1.only ho (by omega)).cell
  have l0 := (HY.out.2.1.only ho (by omega)).lt
  have c1 := (HY.out.2.2.1.only ho (by omega)).cell
  have l1 := (HY.out.2.2.1.only ho (by omega)).lt
  have c2 := (HY.out.2.2.2.1.only ho (by omega)).cell
  have l2 := (HY.out.2.2.2.1.only ho (by omega)).lt
  have c3 := (HY.out.2.2.2.2.1.only ho (by omega)).cell
  have l3 := (HY.out.2.2.2.2.1.only ho (by omega)).lt
  have c6 := (HY.out.2.2.2.2.2.2.2.only ho (by omega)).cell
  have l6 := (HY.out.2.2.2.2.2.2.2.only ho (by omega)).lt
  have c4 := b4.cell
  have c5 := b5.cell
  have f4 := b4.free
  have f5 := b5.free
  have l4 := b4.lt
  have l5 := b5.lt
  have HZ := Lib.hid (And.intro b4 (And.intro b5 ho))
  clear b4 b5 ho
  go_wp2_with fail
  rw [rounds_succ]
  refine forget (fun Z => Bk Z (g + 4) #[.int .i64 Q1, .int .i64 0, .int .i64 0] 3 ∧ Bk Z (g + 5) #[.int .i64 0, .int .i64 0, .int .i64 0] 3 ∧ Only (fun b => b = g + 4 ∨ b = g + 5) Y Z) ⟨?_, ?_, ?_⟩ ?_
  · first | exact (HZ.out.1.set_ 0 _).far (by simp) _ | exact (HZ.out.1.set_ 0 _).far (by show g + 4 ≠ _; omega) _
  · first | exact (HZ.out.2.1.far (by simp) _).set_ 0 _ | exact (HZ.out.2.1.far (by show g + 5 ≠ _; omega) _).set_ 0 _
  · exact (HZ.out.2.2.set_ (p := ⟨g + 4, 0, none⟩) (.inl (.inl rfl)) _).set_ (p := ⟨g + 5, 0, none⟩) (.inl (.inr rfl)) _
  clear HZ c0 c1 c2 c3 c6 l0 l1 l2 l3 l6 c4 c5 f4 f5 l4 l5
  rintro Z ⟨b4, b5, ho⟩
  have c0 := (HY.out.2.1.only ho (by omega)).cell
  have l0 := (HY.out.2.1.only ho (by omega)).lt
  have c1 := (HY.out.2.2.1.only ho (by omega)).cell
  have l1 := (HY.out.2.2.1.only ho (by omega)).lt
  have c2 := (HY.out.2.2.2.1.only ho (by omega)).cell
  have l2 := (HY.out.2.2.2.1.only ho (by omega)).lt
  have c3 := (HY.out.2.2.2.2.1.only ho (by omega)).cell
  have l3 := (HY.out.2.2.2.2.1.only ho (by omega)).lt
  have c6 := (HY.out.2.2.2.2.2.2.2.only ho (by omega)).cell
  have l6 := (HY.out.2.2.2.2.2.2.2.only ho (by omega)).lt
  have c4 := b4.cell
  have c5 := b5.cell
  have f4 := b4.free
  have f5 := b5.free
  have l4 := b4.lt
  have l5 := b5.lt
  have HZ := Lib.hid (And.intro b4 (And.intro b5 ho))
  clear b4 b5 ho
  go_wp2_with fail
  rw [rounds_succ]
  refine forget (fun Z => Bk Z (g + 4) #[.int .i64 Q1, .int .i64 Q2, .int .i64 0] 3 ∧ Bk Z (g + 5) #[.int .i64 0, .int .i64 1, .int .i64 0] 3 ∧ Only (fun b => b = g + 4 ∨ b = g + 5) Y Z) ⟨?_, ?_, ?_⟩ ?_
  · first | exact (HZ.out.1.set_ 1 _).far (by simp) _ | exact (HZ.out.1.set_ 1 _).far (by show g + 4 ≠ _; omega) _
  · first | exact (HZ.out.2.1.far (by simp) _).set_ 1 _ | exact (HZ.out.2.1.far (by show g + 5 ≠ _; omega) _).set_ 1 _
  · exact (HZ.out.2.2.set_ (p := ⟨g + 4, 1, none⟩) (.inl (.inl rfl)) _).set_ (p := ⟨g + 5, 1, none⟩) (.inl (.inr rfl)) _
  clear HZ c0 c1 c2 c3 c6 l0 l1 l2 l3 l6 c4 c5 f4 f5 l4 l5
  rintro Z ⟨b4, b5, ho⟩
  have c0 := (HY.out.2.1.only ho (by omega)).cell
  have l0 := (HY.out.2.1.only ho (by omega)).lt
  have c1 := (HY.out.2.2.1.only ho (by omega)).cell
  have l1 := (HY.out.2.2.1.only ho (by omega)).lt
  have c2 := (HY.out.2.2.2.1.only ho (by omega)).cell
  have l2 := (HY.out.2.2.2.1.only ho (by omega)).lt
  have c3 := (HY.out.2.2.2.2.1.only ho (by omega)).cell
  have l3 := (HY.out.2.2.2.2.1.only ho (by omega)).lt
  have c6 := (HY.out.2.2.2.2.2.2.2.only ho (by omega)).cell
  have l6 := (HY.out.2.2.2.2.2.2.2.only ho (by omega)).lt
  have c4 := b4.cell
  have c5 := b5.cell
  have f4 := b4.free
  have f5 := b5.free
  have l4 := b4.lt
  have l5 := b5.lt
  have HZ := Lib.hid (And.intro b4 (And.intro b5 ho))
  clear b4 b5 ho
  go_wp2_with fail
  rw [rounds_succ]
  refine forget (fun Z => Bk Z (g + 4) #[.int .i64 Q1, .int .i64 Q2, .int .i64 Q3] 3 ∧ Bk Z (g + 5) #[.int .i64 0, .int .i64 1, .int .i64 2] 3 ∧ Only (fun b => b = g + 4 ∨ b = g + 5) Y Z) ⟨?_, ?_, ?_⟩ ?_
  · first | exact (HZ.out.1.set_ 2 _).far (by simp) _ | exact (HZ.out.1.set_ 2 _).far (by show g + 4 ≠ _; omega) _
  · first | exact (HZ.out.2.1.far (by simp) _).set_ 2 _ | exact (HZ.out.2.1.far (by show g + 5 ≠ _; omega) _).set_ 2 _
  · exact (HZ.out.2.2.set_ (p := ⟨g + 4, 2, none⟩) (.inl (.inl rfl)) _).set_ (p := ⟨g + 5, 2, none⟩) (.inl (.inr rfl)) _
  clear HZ c0 c1 c2 c3 c6 l0 l1 l2 l3 l6 c4 c5 f4 f5 l4 l5
  rintro Z ⟨b4, b5, ho⟩
  have c0 := (HY.out.2.1.only ho (by omega)).cell
  have l0 := (HY.out.2.1.only ho (by omega)).lt
  have c1 := (HY.out.2.2.1.only ho (by omega)).cell
  have l1 := (HY.out.2.2.1.only ho (by omega)).lt
  have c2 := (HY.out.2.2.2.1.only ho (by omega)).cell
  have l2 := (HY.out.2.2.2.1.only ho (by omega)).lt
  have c3 := (HY.out.2.2.2.2.1.only ho (by omega)).cell
  have l3 := (HY.out.2.2.2.2.1.only ho (by omega)).lt
  have c6 := (HY.out.2.2.2.2.2.2.2.only ho (by omega)).cell
  have l6 := (HY.out.2.2.2.2.2.2.2.only ho (by omega)).lt
  have c4 := b4.cell
  have c5 := b5.cell
  have f4 := b4.free
  have f5 := b5.free
  have l4 := b4.lt
  have l5 := b5.lt
  have HZ := Lib.hid (And.intro b4 (And.intro b5 ho))
  clear b4 b5 ho
  go_wp2_with fail
  have hYs := Hsz.out
  have hZs := HZ.out.2.2.size
  refine calls_forget (F := fun W => SpIs W (g + 3) g (g + 1) (g + 2) Z.heap.size lb tl cp n a b c al ∧ Bk W (g + 4) #[.int .i64 Q1, .int .i64 Q2, .int .i64 Q3] 3 ∧ Bk W (g + 5) #[.int .i64 0, .int .i64 1, .int .i64 2] 3 ∧ Only (fun b => b = g + 4 ∨ b = g + 5) Y W) ⟨⟨?_, ?_, ?_, ?_, ?_, ?_⟩, ?_, ?_, ?_⟩ ?_
  · exact (HY.out.2.2.2.2.1.only HZ.out.2.2 (by omega)).alloc _
  · exact (HY.out.2.1.only HZ.out.2.2 (by omega)).alloc _
  · exact (HY.out.2.2.1.only HZ.out.2.2 (by omega)).alloc _
  · exact (HY.out.2.2.2.1.only HZ.out.2.2 (by omega)).alloc _
  · exact Bk.new _ _ _
  · exact (HY.out.2.2.2.2.2.2.2.only HZ.out.2.2 (by omega)).alloc _
  · exact HZ.out.1.alloc _
  · exact HZ.out.2.1.alloc _
  · exact HZ.out.2.2.alloc _
  generalize Z.heap.size = pf at *
  clear HZ c0 c1 c2 c3 c6 l0 l1 l2 l3 l6 c4 c5 f4 f5 l4 l5
  rintro W ⟨sp, b4, b5, ho⟩
  refine (stable_any (g + 5) X1 X2 X3 sp b5 ⟨by omega, by omega, by omega, by omega, by omega, by omega⟩ 3 hX1 hX2 hX3 ⟨px1, px1'⟩ ⟨px2, px2'⟩ ⟨px3, px3'⟩ h0 h1 HG.out.1).mono ?_
  rintro e W2 ⟨rfl, y1, y2⟩
  have b4' := b4.only y2 (by omega)
  have sp' := sp.only y2 (by rintro h (rfl | rfl | rfl | rfl | rfl | rfl) <;> omega)
  have ho2 : Only (fun b => b = g + 4 ∨ b = g + 5) Y W2 := ho.trans (y2.mono fun b hb => .inr hb)
  have hoP : ordP n a b c = ord3 (X1 % al) (X2 % al) (X3 % al) := by unfold ordP; rw [hX1, hX2, hX3, hal]
  have hlP : leftP n a b c = n - (Q1 + Q2 + Q3) := by unfold leftP; rw [hX1, hX2, hX3, hal, hQ1, hQ2, hQ3]
  have hlb2 := left_bd n a b c (by omega)
  have hsP : splitP n a b c = (Q1 + incN (ordP n a b c) (leftP n a b c) 0, Q2 + incN (ordP n a b c) (leftP n a b c) 1, Q3 + incN (ordP n a b c) (leftP n a b c) 2) := by unfold splitP; rw [hX1, hX2, hX3, hal, hQ1, hQ2, hQ3]
  have hR : Hid (Splitted w n a b c = Splitted w n a b c) := Lib.hid rfl
  obtain ⟨S, hS⟩ : ∃ s, Q1 + Q2 + Q3 = s := ⟨_, rfl⟩
  rw [hS] at hlP
  obtain ⟨L, hL⟩ : ∃ l, leftP n a b c = l := ⟨_, rfl⟩
  rw [hL] at hlP hlb2 hsP
  obtain ⟨o1, o2, o3, hO⟩ : ∃ o1 o2 o3, ord3 (X1 % al) (X2 % al) (X3 % al) = (o1, o2, o3) := ⟨_, _, _, rfl⟩
  rw [hoP, hO] at hsP
  rw [hO] at y1
  have ho6 := ord3_in hO
  have hsum : Hid (∀ W', Bk W' (g + 4) #[.int .i64 Q1, .int .i64 Q2, .int .i64 Q3] 3 → Calls Try.prog 56 #[.slice (some ⟨g + 4, 0, none⟩) 3 3] W' fun e w' => e = .returned (.int .i64 S) ∧ W' = w') := Lib.hid fun W' hW => by
    have he := three_elems hW ⟨q1, by omega⟩ ⟨q2, by omega⟩ ⟨q3, by omega⟩
    have hv : ([Q1, Q2, Q3].all validB) = true := by
      simp only [List.all_cons, List.all_nil, Bool.and_true, Bool.and_eq_true]
      exact ⟨validB_in (by omega), validB_in (by omega), validB_in (by omega)⟩
    have hs : sumI [Q1, Q2, Q3] = S := by rw [← hS]; simp [sumI]
    exact sum_is S W' _ 3 _ 3 [Q1, Q2, Q3] he rfl (by omega) (Lib.hid hv) (Lib.hid hs)
  have HsP := Lib.hid hsP
  have HW := Lib.hid (And.intro y1 (And.intro b4' (And.intro ho2 (And.intro sp'.sign sp'.num))))
  have k1 := y1.cell
  have k4 := b4'.cell
  have m1 := y1.lt
  have m4 := b4'.lt
  have g4 := b4'.free
  have ks := sp'.sign.cell
  have ms := sp'.sign.lt
  have kn := sp'.num.cell
  have mn := sp'.num.lt
  have hnS : n - S = L := by omega
  clear sp b4 b5 ho y1 y2 b4' sp' ho2 hoP hL hsP hO hlP hR hS
  obtain ⟨hl0, hl2⟩ := hlb2
  have hl3 : L = 0 ∨ L = 1 ∨ L = 2 := by omega
  have HL := Lib.hid hl3
  have HO6 := Lib.hid ho6
  clear hl3 ho6
  obtain ⟨P1, P2, P3, hP⟩ : ∃ p1 p2 p3, splitP n a b c = (p1, p2, p3) := ⟨_, _, _, rfl⟩
  have hP2 := HsP.out
  rw [hP] at hP2
  simp only [Prod.mk.injEq] at hP2
  obtain ⟨hp1, hp2, hp3⟩ := hP2
  have u1 := incN_bd (o1, o2, o3) L 0
  have u2 := incN_bd (o1, o2, o3) L 1
  have u3 := incN_bd (o1, o2, o3) L 2
  have p1b : 0 ≤ P1 ∧ P1 ≤ 1000000001 := by omega
  have p2b : 0 ≤ P2 ∧ P2 ≤ 1000000001 := by omega
  have p3b : 0 ≤ P3 ∧ P3 ≤ 1000000001 := by omega
  obtain ⟨p1a, p1b⟩ := p1b
  obtain ⟨p2a, p2b⟩ := p2b
  obtain ⟨p3a, p3b⟩ := p3b
  have HPe := Lib.hid (And.intro hp1 (And.intro hp2 hp3))
  have HPS := Lib.hid hP
  have Hw := Lib.hid HY.out.1
  have HYs := Lib.hid Hsz.out
  clear hP hp1 hp2 hp3 u1 u2 u3 HsP HH HG Hval HY Hsz
  rcases HL.out with rfl | rfl | rfl
  · go_wp2_with fail
    go_quiet ((go_at_call 56; refine Calls.quiet_of_same (Calls.mono (hsum.out _ ?_) fun _ _ h => ⟨h.1, h.2.symm⟩); exact HW.out.2.1))
    go_wp2_with fail
    refine wp_loop_rounds 3 ?_
    rw [rounds_succ]
    go_wp2_with fail
    refine forget (fun V => Bk V (g + 4) #[.int .i64 P1, .int .i64 P2, .int .i64 P3] 3 ∧ Bk V (g + 3) #[.int .i64 1] 3 ∧ Only (fun b => b = g + 4 ∨ b = g + 5) Y V) ⟨?_, ?_, ?_⟩ ?_
    · rw [HPe.out.1, HPe.out.2.1, HPe.out.2.2]
      have hb := HW.out.2.1
      first
        | (simpa [incN] using hb)
        | (simp [incN]; exact hb)
    · exact HW.out.2.2.2.1
    · exact HW.out.2.2.1.drewN nq
    clear k1 k4 m1 m4 g4 ks ms kn mn HW HPe
    rintro V ⟨b4, b3, ho⟩
    have v4 := b4.cell
    have v3 := b3.cell
    have n4 := b4.lt
    have n3 := b3.lt
    have fv4 := b4.free
    have HV := Lib.hid (And.intro b4 (And.intro b3 ho))
    clear b4 b3 ho
    go_wp2_with fail
    refine wp_loop_rounds 4 ?_
    rw [rounds_succ]
    go_wp2_with fail
    go_big_region
    go_wp2_with fail
    rw [rounds_succ]
    refine forget (fun V => Bk V (g + 4) #[.int .i64 P1, .int .i64 P2, .int .i64 P3] 3 ∧ Bk V (g + 3) #[.int .i64 1] 3 ∧ Only (fun b => b = g + 4 ∨ b = g + 5) Y V) ⟨?_, ?_, ?_⟩ ?_
    · exact set_eq2 HV.out.1 rfl
    · exact HV.out.2.1.far (by show g + 3 ≠ _; simp) _
    · exact (HV.out.2.2.set_ (p := ⟨g + 4, 0, none⟩) (.inl (.inl rfl)) _).drew
    clear HV v3 v4 n3 n4 fv4
    rintro V ⟨b4, b3, ho⟩
    have v4 := b4.cell
    have v3 := b3.cell
    have n4 := b4.lt
    have n3 := b3.lt
    have fv4 := b4.free
    have HV := Lib.hid (And.intro b4 (And.intro b3 ho))
    clear b4 b3 ho
    go_wp2_with fail
    go_big_region
    go_wp2_with fail
    rw [rounds_succ]
    refine forget (fun V => Bk V (g + 4) #[.int .i64 P1, .int .i64 P2, .int .i64 P3] 3 ∧ Bk V (g + 3) #[.int .i64 1] 3 ∧ Only (fun b => b = g + 4 ∨ b = g + 5) Y V) ⟨?_, ?_, ?_⟩ ?_
    · exact set_eq2 HV.out.1 rfl
    · exact HV.out.2.1.far (by show g + 3 ≠ _; simp) _
    · exact (HV.out.2.2.set_ (p := ⟨g + 4, 1, none⟩) (.inl (.inl rfl)) _).drew
    clear HV v3 v4 n3 n4 fv4
    rintro V ⟨b4, b3, ho⟩
    have v4 := b4.cell
    have v3 := b3.cell
    have n4 := b4.lt
    have n3 := b3.lt
    have fv4 := b4.free
    have HV := Lib.hid (And.intro b4 (And.intro b3 ho))
    clear b4 b3 ho
    go_wp2_with fail
    go_big_region
    go_wp2_with fail
    rw [rounds_succ]
    refine forget (fun V => Bk V (g + 4) #[.int .i64 P1, .int .i64 P2, .int .i64 P3] 3 ∧ Bk V (g + 3) #[.int .i64 1] 3 ∧ Only (fun b => b = g + 4 ∨ b = g + 5) Y V) ⟨?_, ?_, ?_⟩ ?_
    · exact set_eq2 HV.out.1 rfl
    · exact HV.out.2.1.far (by show g + 3 ≠ _; simp) _
    · exact (HV.out.2.2.set_ (p := ⟨g + 4, 2, none⟩) (.inl (.inl rfl)) _).drew
    clear HV v3 v4 n3 n4 fv4
    rintro V ⟨b4, b3, ho⟩
    have v4 := b4.cell
    have v3 := b3.cell
    have n4 := b4.lt
    have n3 := b3.lt
    have fv4 := b4.free
    have HV := Lib.hid (And.intro b4 (And.intro b3 ho))
    clear b4 b3 ho
    go_wp2_with fail
    go_wp2_with fail
    go_ret2
    exact ⟨g + 4, rfl, by rw [HPS.out]; exact HV.out.1, by rw [hg]; exact Hw.out.trans (HV.out.2.2.to_below (fun b hb => by omega) (by have := HYs.out; omega))⟩
  · rcases HO6.out with hq | hq | hq | hq | hq | hq
    · simp only [Prod.mk.injEq] at hq
      obtain ⟨rfl, rfl, rfl⟩ := hq
      go_wp2_with fail
      go_quiet ((go_at_call 56; refine Calls.quiet_of_same (Calls.mono (hsum.out _ ?_) fun _ _ h => ⟨h.1, h.2.symm⟩); exact HW.out.2.1))
      go_wp2_with fail
      refine wp_loop_rounds 3 ?_
      rw [rounds_succ]
      go_wp2_with fail
      rw [rounds_succ]
      go_wp2_with fail
      refine forget (fun V => Bk V (g + 4) #[.int .i64 P1, .int .i64 P2, .int .i64 P3] 3 ∧ Bk V (g + 3) #[.int .i64 1] 3 ∧ Only (fun b => b = g + 4 ∨ b = g + 5) Y V) ⟨?_, ?_, ?_⟩ ?_
      · rw [HPe.out.1, HPe.out.2.1, HPe.out.2.2]
        have hb := (HW.out.2.1).set_ 0 (.int .i64 (Q1 + 1))
        first
          | (simpa [incN] using hb)
          | (simp [incN]; exact hb)
      · exact (HW.out.2.2.2.1.far (by show g + 3 ≠ _; simp) _)
      · exact (HW.out.2.2.1.drewN nq).set_ (p := ⟨g + 4, 0, none⟩) (.inl (.inl rfl)) _
      clear k1 k4 m1 m4 g4 ks ms kn mn HW HPe
      rintro V ⟨b4, b3, ho⟩
      have v4 := b4.cell
      have v3 := b3.cell
      have n4 := b4.lt
      have n3 := b3.lt
      have fv4 := b4.free
      have HV := Lib.hid (And.intro b4 (And.intro b3 ho))
      clear b4 b3 ho
      go_wp2_with fail
      refine wp_loop_rounds 4 ?_
      rw [rounds_succ]
      go_wp2_with fail
      go_big_region
      go_wp2_with fail
      rw [rounds_succ]
      refine forget (fun V => Bk V (g + 4) #[.int .i64 P1, .int .i64 P2, .int .i64 P3] 3 ∧ Bk V (g + 3) #[.int .i64 1] 3 ∧ Only (fun b => b = g + 4 ∨ b = g + 5) Y V) ⟨?_, ?_, ?_⟩ ?_
      · exact set_eq2 HV.out.1 rfl
      · exact HV.out.2.1.far (by show g + 3 ≠ _; simp) _
      · exact (HV.out.2.2.set_ (p := ⟨g + 4, 0, none⟩) (.inl (.inl rfl)) _).drew
      clear HV v3 v4 n3 n4 fv4
      rintro V ⟨b4, b3, ho⟩
      have v4 := b4.cell
      have v3 := b3.cell
      have n4 := b4.lt
      have n3 := b3.lt
      have fv4 := b4.free
      have HV := Lib.hid (And.intro b4 (And.intro b3 ho))
      clear b4 b3 ho
      go_wp2_with fail
      go_big_region
      go_wp2_with fail
      rw [rounds_succ]
      refine forget (fun V => Bk V (g + 4) #[.int .i64 P1, .int .i64 P2, .int .i64 P3] 3 ∧ Bk V (g + 3) #[.int .i64 1] 3 ∧ Only (fun b => b = g + 4 ∨ b = g + 5) Y V) ⟨?_, ?_, ?_⟩ ?_
      · exact set_eq2 HV.out.1 rfl
      · exact HV.out.2.1.far (by show g + 3 ≠ _; simp) _
      · exact (HV.out.2.2.set_ (p := ⟨g + 4, 1, none⟩) (.inl (.inl rfl)) _).drew
      clear HV v3 v4 n3 n4 fv4
      rintro V ⟨b4, b3, ho⟩
      have v4 := b4.cell
      have v3 := b3.cell
      have n4 := b4.lt
      have n3 := b3.lt
      have fv4 := b4.free
      have HV := Lib.hid (And.intro b4 (And.intro b3 ho))
      clear b4 b3 ho
      go_wp2_with fail
      go_big_region
      go_wp2_with fail
      rw [rounds_succ]
      refine forget (fun V => Bk V (g + 4) #[.int .i64 P1, .int .i64 P2, .int .i64 P3] 3 ∧ Bk V (g + 3) #[.int .i64 1] 3 ∧ Only (fun b => b = g + 4 ∨ b = g + 5) Y V) ⟨?_, ?_, ?_⟩ ?_
      · exact set_eq2 HV.out.1 rfl
      · exact HV.out.2.1.far (by show g + 3 ≠ _; simp) _
      · exact (HV.out.2.2.set_ (p := ⟨g + 4, 2, none⟩) (.inl (.inl rfl)) _).drew
      clear HV v3 v4 n3 n4 fv4
      rintro V ⟨b4, b3, ho⟩
      have v4 := b4.cell
      have v3 := b3.cell
      have n4 := b4.lt
      have n3 := b3.lt
      have fv4 := b4.free
      have HV := Lib.hid (And.intro b4 (And.intro b3 ho))
      clear b4 b3 ho
      go_wp2_with fail
      go_wp2_with fail
      go_ret2
      exact ⟨g + 4, rfl, by rw [HPS.out]; exact HV.out.1, by rw [hg]; exact Hw.out.trans (HV.out.2.2.to_below (fun b hb => by omega) (by have := HYs.out; omega))⟩
    · simp only [Prod.mk.injEq] at hq
      obtain ⟨rfl, rfl, rfl⟩ := hq
      go_wp2_with fail
      go_quiet ((go_at_call 56; refine Calls.quiet_of_same (Calls.mono (hsum.out _ ?_) fun _ _ h => ⟨h.1, h.2.symm⟩); exact HW.out.2.1))
      go_wp2_with fail
      refine wp_loop_rounds 3 ?_
      rw [rounds_succ]
      go_wp2_with fail
      rw [rounds_succ]
      go_wp2_with fail
      refine forget (fun V => Bk V (g + 4) #[.int .i64 P1, .int .i64 P2, .int .i64 P3] 3 ∧ Bk V (g + 3) #[.int .i64 1] 3 ∧ Only (fun b => b = g + 4 ∨ b = g + 5) Y V) ⟨?_, ?_, ?_⟩ ?_
      · rw [HPe.out.1, HPe.out.2.1, HPe.out.2.2]
        have hb := (HW.out.2.1).set_ 0 (.int .i64 (Q1 + 1))
        first
          | (simpa [incN] using hb)
          | (simp [incN]; exact hb)
      · exact (HW.out.2.2.2.1.far (by show g + 3 ≠ _; simp) _)
      · exact (HW.out.2.2.1.drewN nq).set_ (p := ⟨g + 4, 0, none⟩) (.inl (.inl rfl)) _
      clear k1 k4 m1 m4 g4 ks ms kn mn HW HPe
      rintro V ⟨b4, b3, ho⟩
      have v4 := b4.cell
      have v3 := b3.cell
      have n4 := b4.lt
      have n3 := b3.lt
      have fv4 := b4.free
      have HV := Lib.hid (And.intro b4 (And.intro b3 ho))
      clear b4 b3 ho
      go_wp2_with fail
      refine wp_loop_rounds 4 ?_
      rw [rounds_succ]
      go_wp2_with fail
      go_big_region
      go_wp2_with fail
      rw [rounds_succ]
      refine forget (fun V => Bk V (g + 4) #[.int .i64 P1, .int .i64 P2, .int .i64 P3] 3 ∧ Bk V (g + 3) #[.int .i64 1] 3 ∧ Only (fun b => b = g + 4 ∨ b = g + 5) Y V) ⟨?_, ?_, ?_⟩ ?_
      · exact set_eq2 HV.out.1 rfl
      · exact HV.out.2.1.far (by show g + 3 ≠ _; simp) _
      · exact (HV.out.2.2.set_ (p := ⟨g + 4, 0, none⟩) (.inl (.inl rfl)) _).drew
      clear HV v3 v4 n3 n4 fv4
      rintro V ⟨b4, b3, ho⟩
      have v4 := b4.cell
      have v3 := b3.cell
      have n4 := b4.lt
      have n3 := b3.lt
      have fv4 := b4.free
      have HV := Lib.hid (And.intro b4 (And.intro b3 ho))
      clear b4 b3 ho
      go_wp2_with fail
      go_big_region
      go_wp2_with fail
      rw [rounds_succ]
      refine forget (fun V => Bk V (g + 4) #[.int .i64 P1, .int .i64 P2, .int .i64 P3] 3 ∧ Bk V (g + 3) #[.int .i64 1] 3 ∧ Only (fun b => b = g + 4 ∨ b = g + 5) Y V) ⟨?_, ?_, ?_⟩ ?_
      · exact set_eq2 HV.out.1 rfl
      · exact HV.out.2.1.far (by show g + 3 ≠ _; simp) _
      · exact (HV.out.2.2.set_ (p := ⟨g + 4, 1, none⟩) (.inl (.inl rfl)) _).drew
      clear HV v3 v4 n3 n4 fv4
      rintro V ⟨b4, b3, ho⟩
      have v4 := b4.cell
      have v3 := b3.cell
      have n4 := b4.lt
      have n3 := b3.lt
      have fv4 := b4.free
      have HV := Lib.hid (And.intro b4 (And.intro b3 ho))
      clear b4 b3 ho
      go_wp2_with fail
      go_big_region
      go_wp2_with fail
      rw [rounds_succ]
      refine forget (fun V => Bk V (g + 4) #[.int .i64 P1, .int .i64 P2, .int .i64 P3] 3 ∧ Bk V (g + 3) #[.int .i64 1] 3 ∧ Only (fun b => b = g + 4 ∨ b = g + 5) Y V) ⟨?_, ?_, ?_⟩ ?_
      · exact set_eq2 HV.out.1 rfl
      · exact HV.out.2.1.far (by show g + 3 ≠ _; simp) _
      · exact (HV.out.2.2.set_ (p := ⟨g + 4, 2, none⟩) (.inl (.inl rfl)) _).drew
      clear HV v3 v4 n3 n4 fv4
      rintro V ⟨b4, b3, ho⟩
      have v4 := b4.cell
      have v3 := b3.cell
      have n4 := b4.lt
      have n3 := b3.lt
      have fv4 := b4.free
      have HV := Lib.hid (And.intro b4 (And.intro b3 ho))
      clear b4 b3 ho
      go_wp2_with fail
      go_wp2_with fail
      go_ret2
      exact ⟨g + 4, rfl, by rw [HPS.out]; exact HV.out.1, by rw [hg]; exact Hw.out.trans (HV.out.2.2.to_below (fun b hb => by omega) (by have := HYs.out; omega))⟩
    · simp only [Prod.mk.injEq] at hq
      obtain ⟨rfl, rfl, rfl⟩ := hq
      go_wp2_with fail
      go_quiet ((go_at_call 56; refine Calls.quiet_of_same (Calls.mono (hsum.out _ ?_) fun _ _ h => ⟨h.1, h.2.symm⟩); exact HW.out.2.1))
      go_wp2_with fail
      refine wp_loop_rounds 3 ?_
      rw [rounds_succ]
      go_wp2_with fail
      rw [rounds_succ]
      go_wp2_with fail
      refine forget (fun V => Bk V (g + 4) #[.int .i64 P1, .int .i64 P2, .int .i64 P3] 3 ∧ Bk V (g + 3) #[.int .i64 1] 3 ∧ Only (fun b => b = g + 4 ∨ b = g + 5) Y V) ⟨?_, ?_, ?_⟩ ?_
      · rw [HPe.out.1, HPe.out.2.1, HPe.out.2.2]
        have hb := (HW.out.2.1).set_ 1 (.int .i64 (Q2 + 1))
        first
          | (simpa [incN] using hb)
          | (simp [incN]; exact hb)
      · exact (HW.out.2.2.2.1.far (by show g + 3 ≠ _; simp) _)
      · exact (HW.out.2.2.1.drewN nq).set_ (p := ⟨g + 4, 1, none⟩) (.inl (.inl rfl)) _
      clear k1 k4 m1 m4 g4 ks ms kn mn HW HPe
      rintro V ⟨b4, b3, ho⟩
      have v4 := b4.cell
      have v3 := b3.cell
      have n4 := b4.lt
      have n3 := b3.lt
      have fv4 := b4.free
      have HV := Lib.hid (And.intro b4 (And.intro b3 ho))
      clear b4 b3 ho
      go_wp2_with fail
      refine wp_loop_rounds 4 ?_
      rw [rounds_succ]
      go_wp2_with fail
      go_big_region
      go_wp2_with fail
      rw [rounds_succ]
      refine forget (fun V => Bk V (g + 4) #[.int .i64 P1, .int .i64 P2, .int .i64 P3] 3 ∧ Bk V (g + 3) #[.int .i64 1] 3 ∧ Only (fun b => b = g + 4 ∨ b = g + 5) Y V) ⟨?_, ?_, ?_⟩ ?_
      · exact set_eq2 HV.out.1 rfl
      · exact HV.out.2.1.far (by show g + 3 ≠ _; simp) _
      · exact (HV.out.2.2.set_ (p := ⟨g + 4, 0, none⟩) (.inl (.inl rfl)) _).drew
      clear HV v3 v4 n3 n4 fv4
      rintro V ⟨b4, b3, ho⟩
      have v4 := b4.cell
      have v3 := b3.cell
      have n4 := b4.lt
      have n3 := b3.lt
      have fv4 := b4.free
      have HV := Lib.hid (And.intro b4 (And.intro b3 ho))
      clear b4 b3 ho
      go_wp2_with fail
      go_big_region
      go_wp2_with fail
      rw [rounds_succ]
      refine forget (fun V => Bk V (g + 4) #[.int .i64 P1, .int .i64 P2, .int .i64 P3] 3 ∧ Bk V (g + 3) #[.int .i64 1] 3 ∧ Only (fun b => b = g + 4 ∨ b = g + 5) Y V) ⟨?_, ?_, ?_⟩ ?_
      · exact set_eq2 HV.out.1 rfl
      · exact HV.out.2.1.far (by show g + 3 ≠ _; simp) _
      · exact (HV.out.2.2.set_ (p := ⟨g + 4, 1, none⟩) (.inl (.inl rfl)) _).drew
      clear HV v3 v4 n3 n4 fv4
      rintro V ⟨b4, b3, ho⟩
      have v4 := b4.cell
      have v3 := b3.cell
      have n4 := b4.lt
      have n3 := b3.lt
      have fv4 := b4.free
      have HV := Lib.hid (And.intro b4 (And.intro b3 ho))
      clear b4 b3 ho
      go_wp2_with fail
      go_big_region
      go_wp2_with fail
      rw [rounds_succ]
      refine forget (fun V => Bk V (g + 4) #[.int .i64 P1, .int .i64 P2, .int .i64 P3] 3 ∧ Bk V (g + 3) #[.int .i64 1] 3 ∧ Only (fun b => b = g + 4 ∨ b = g + 5) Y V) ⟨?_, ?_, ?_⟩ ?_
      · exact set_eq2 HV.out.1 rfl
      · exact HV.out.2.1.far (by show g + 3 ≠ _; simp) _
      · exact (HV.out.2.2.set_ (p := ⟨g + 4, 2, none⟩) (.inl (.inl rfl)) _).drew
      clear HV v3 v4 n3 n4 fv4
      rintro V ⟨b4, b3, ho⟩
      have v4 := b4.cell
      have v3 := b3.cell
      have n4 := b4.lt
      have n3 := b3.lt
      have fv4 := b4.free
      have HV := Lib.hid (And.intro b4 (And.intro b3 ho))
      clear b4 b3 ho
      go_wp2_with fail
      go_wp2_with fail
      go_ret2
      exact ⟨g + 4, rfl, by rw [HPS.out]; exact HV.out.1, by rw [hg]; exact Hw.out.trans (HV.out.2.2.to_below (fun b hb => by omega) (by have := HYs.out; omega))⟩
    · simp only [Prod.mk.injEq] at hq
      obtain ⟨rfl, rfl, rfl⟩ := hq
      go_wp2_with fail
      go_quiet ((go_at_call 56; refine Calls.quiet_of_same (Calls.mono (hsum.out _ ?_) fun _ _ h => ⟨h.1, h.2.symm⟩); exact HW.out.2.1))
      go_wp2_with fail
      refine wp_loop_rounds 3 ?_
      rw [rounds_succ]
      go_wp2_with fail
      rw [rounds_succ]
      go_wp2_with fail
      refine forget (fun V => Bk V (g + 4) #[.int .i64 P1, .int .i64 P2, .int .i64 P3] 3 ∧ Bk V (g + 3) #[.int .i64 1] 3 ∧ Only (fun b => b = g + 4 ∨ b = g + 5) Y V) ⟨?_, ?_, ?_⟩ ?_
      · rw [HPe.out.1, HPe.out.2.1, HPe.out.2.2]
        have hb := (HW.out.2.1).set_ 1 (.int .i64 (Q2 + 1))
        first
          | (simpa [incN] using hb)
          | (simp [incN]; exact hb)
      · exact (HW.out.2.2.2.1.far (by show g + 3 ≠ _; simp) _)
      · exact (HW.out.2.2.1.drewN nq).set_ (p := ⟨g + 4, 1, none⟩) (.inl (.inl rfl)) _
      clear k1 k4 m1 m4 g4 ks ms kn mn HW HPe
      rintro V ⟨b4, b3, ho⟩
      have v4 := b4.cell
      have v3 := b3.cell
      have n4 := b4.lt
      have n3 := b3.lt
      have fv4 := b4.free
      have HV := Lib.hid (And.intro b4 (And.intro b3 ho))
      clear b4 b3 ho
      go_wp2_with fail
      refine wp_loop_rounds 4 ?_
      rw [rounds_succ]
      go_wp2_with fail
      go_big_region
      go_wp2_with fail
      rw [rounds_succ]
      refine forget (fun V => Bk V (g + 4) #[.int .i64 P1, .int .i64 P2, .int .i64 P3] 3 ∧ Bk V (g + 3) #[.int .i64 1] 3 ∧ Only (fun b => b = g + 4 ∨ b = g + 5) Y V) ⟨?_, ?_, ?_⟩ ?_
      · exact set_eq2 HV.out.1 rfl
      · exact HV.out.2.1.far (by show g + 3 ≠ _; simp) _
      · exact (HV.out.2.2.set_ (p := ⟨g + 4, 0, none⟩) (.inl (.inl rfl)) _).drew
      clear HV v3 v4 n3 n4 fv4
      rintro V ⟨b4, b3, ho⟩
      have v4 := b4.cell
      have v3 := b3.cell
      have n4 := b4.lt
      have n3 := b3.lt
      have fv4 := b4.free
      have HV := Lib.hid (And.intro b4 (And.intro b3 ho))
      clear b4 b3 ho
      go_wp2_with fail
      go_big_region
      go_wp2_with fail
      rw [rounds_succ]
      refine forget (fun V => Bk V (g + 4) #[.int .i64 P1, .int .i64 P2, .int .i64 P3] 3 ∧ Bk V (g + 3) #[.int .i64 1] 3 ∧ Only (fun b => b = g + 4 ∨ b = g + 5) Y V) ⟨?_, ?_, ?_⟩ ?_
      · exact set_eq2 HV.out.1 rfl
      · exact HV.out.2.1.far (by show g + 3 ≠ _; simp) _
      · exact (HV.out.2.2.set_ (p := ⟨g + 4, 1, none⟩) (.inl (.inl rfl)) _).drew
      clear HV v3 v4 n3 n4 fv4
      rintro V ⟨b4, b3, ho⟩
      have v4 := b4.cell
      have v3 := b3.cell
      have n4 := b4.lt
      have n3 := b3.lt
      have fv4 := b4.free
      have HV := Lib.hid (And.intro b4 (And.intro b3 ho))
      clear b4 b3 ho
      go_wp2_with fail
      go_big_region
      go_wp2_with fail
      rw [rounds_succ]
      refine forget (fun V => Bk V (g + 4) #[.int .i64 P1, .int .i64 P2, .int .i64 P3] 3 ∧ Bk V (g + 3) #[.int .i64 1] 3 ∧ Only (fun b => b = g + 4 ∨ b = g + 5) Y V) ⟨?_, ?_, ?_⟩ ?_
      · exact set_eq2 HV.out.1 rfl
      · exact HV.out.2.1.far (by show g + 3 ≠ _; simp) _
      · exact (HV.out.2.2.set_ (p := ⟨g + 4, 2, none⟩) (.inl (.inl rfl)) _).drew
      clear HV v3 v4 n3 n4 fv4
      rintro V ⟨b4, b3, ho⟩
      have v4 := b4.cell
      have v3 := b3.cell
      have n4 := b4.lt
      have n3 := b3.lt
      have fv4 := b4.free
      have HV := Lib.hid (And.intro b4 (And.intro b3 ho))
      clear b4 b3 ho
      go_wp2_with fail
      go_wp2_with fail
      go_ret2
      exact ⟨g + 4, rfl, by rw [HPS.out]; exact HV.out.1, by rw [hg]; exact Hw.out.trans (HV.out.2.2.to_below (fun b hb => by omega) (by have := HYs.out; omega))⟩
    · simp only [Prod.mk.injEq] at hq
      obtain ⟨rfl, rfl, rfl⟩ := hq
      go_wp2_with fail
      go_quiet ((go_at_call 56; refine Calls.quiet_of_same (Calls.mono (hsum.out _ ?_) fun _ _ h => ⟨h.1, h.2.symm⟩); exact HW.out.2.1))
      go_wp2_with fail
      refine wp_loop_rounds 3 ?_
      rw [rounds_succ]
      go_wp2_with fail
      rw [rounds_succ]
      go_wp2_with fail
      refine forget (fun V => Bk V (g + 4) #[.int .i64 P1, .int .i64 P2, .int .i64 P3] 3 ∧ Bk V (g + 3) #[.int .i64 1] 3 ∧ Only (fun b => b = g + 4 ∨ b = g + 5) Y V) ⟨?_, ?_, ?_⟩ ?_
      · rw [HPe.out.1, HPe.out.2.1, HPe.out.2.2]
        have hb := (HW.out.2.1).set_ 2 (.int .i64 (Q3 + 1))
        first
          | (simpa [incN] using hb)
          | (simp [incN]; exact hb)
      · exact (HW.out.2.2.2.1.far (by show g + 3 ≠ _; simp) _)
      · exact (HW.out.2.2.1.drewN nq).set_ (p := ⟨g + 4, 2, none⟩) (.inl (.inl rfl)) _
      clear k1 k4 m1 m4 g4 ks ms kn mn HW HPe
      rintro V ⟨b4, b3, ho⟩
      have v4 := b4.cell
      have v3 := b3.cell
      have n4 := b4.lt
      have n3 := b3.lt
      have fv4 := b4.free
      have HV := Lib.hid (And.intro b4 (And.intro b3 ho))
      clear b4 b3 ho
      go_wp2_with fail
      refine wp_loop_rounds 4 ?_
      rw [rounds_succ]
      go_wp2_with fail
      go_big_region
      go_wp2_with fail
      rw [rounds_succ]
      refine forget (fun V => Bk V (g + 4) #[.int .i64 P1, .int .i64 P2, .int .i64 P3] 3 ∧ Bk V (g + 3) #[.int .i64 1] 3 ∧ Only (fun b => b = g + 4 ∨ b = g + 5) Y V) ⟨?_, ?_, ?_⟩ ?_
      · exact set_eq2 HV.out.1 rfl
      · exact HV.out.2.1.far (by show g + 3 ≠ _; simp) _
      · exact (HV.out.2.2.set_ (p := ⟨g + 4, 0, none⟩) (.inl (.inl rfl)) _).drew
      clear HV v3 v4 n3 n4 fv4
      rintro V ⟨b4, b3, ho⟩
      have v4 := b4.cell
      have v3 := b3.cell
      have n4 := b4.lt
      have n3 := b3.lt
      have fv4 := b4.free
      have HV := Lib.hid (And.intro b4 (And.intro b3 ho))
      clear b4 b3 ho
      go_wp2_with fail
      go_big_region
      go_wp2_with fail
      rw [rounds_succ]
      refine forget (fun V => Bk V (g + 4) #[.int .i64 P1, .int .i64 P2, .int .i64 P3] 3 ∧ Bk V (g + 3) #[.int .i64 1] 3 ∧ Only (fun b => b = g + 4 ∨ b = g + 5) Y V) ⟨?_, ?_, ?_⟩ ?_
      · exact set_eq2 HV.out.1 rfl
      · exact HV.out.2.1.far (by show g + 3 ≠ _; simp) _
      · exact (HV.out.2.2.set_ (p := ⟨g + 4, 1, none⟩) (.inl (.inl rfl)) _).drew
      clear HV v3 v4 n3 n4 fv4
      rintro V ⟨b4, b3, ho⟩
      have v4 := b4.cell
      have v3 := b3.cell
      have n4 := b4.lt
      have n3 := b3.lt
      have fv4 := b4.free
      have HV := Lib.hid (And.intro b4 (And.intro b3 ho))
      clear b4 b3 ho
      go_wp2_with fail
      go_big_region
      go_wp2_with fail
      rw [rounds_succ]
      refine forget (fun V => Bk V (g + 4) #[.int .i64 P1, .int .i64 P2, .int .i64 P3] 3 ∧ Bk V (g + 3) #[.int .i64 1] 3 ∧ Only (fun b => b = g + 4 ∨ b = g + 5) Y V) ⟨?_, ?_, ?_⟩ ?_
      · exact set_eq2 HV.out.1 rfl
      · exact HV.out.2.1.far (by show g + 3 ≠ _; simp) _
      · exact (HV.out.2.2.set_ (p := ⟨g + 4, 2, none⟩) (.inl (.inl rfl)) _).drew
      clear HV v3 v4 n3 n4 fv4
      rintro V ⟨b4, b3, ho⟩
      have v4 := b4.cell
      have v3 := b3.cell
      have n4 := b4.lt
      have n3 := b3.lt
      have fv4 := b4.free
      have HV := Lib.hid (And.intro b4 (And.intro b3 ho))
      clear b4 b3 ho
      go_wp2_with fail
      go_wp2_with fail
      go_ret2
      exact ⟨g + 4, rfl, by rw [HPS.out]; exact HV.out.1, by rw [hg]; exact Hw.out.trans (HV.out.2.2.to_below (fun b hb => by omega) (by have := HYs.out; omega))⟩
    · simp only [Prod.mk.injEq] at hq
      obtain ⟨rfl, rfl, rfl⟩ := hq
      go_wp2_with fail
      go_quiet ((go_at_call 56; refine Calls.quiet_of_same (Calls.mono (hsum.out _ ?_) fun _ _ h => ⟨h.1, h.2.symm⟩); exact HW.out.2.1))
      go_wp2_with fail
      refine wp_loop_rounds 3 ?_
      rw [rounds_succ]
      go_wp2_with fail
      rw [rounds_succ]
      go_wp2_with fail
      refine forget (fun V => Bk V (g + 4) #[.int .i64 P1, .int .i64 P2, .int .i64 P3] 3 ∧ Bk V (g + 3) #[.int .i64 1] 3 ∧ Only (fun b => b = g + 4 ∨ b = g + 5) Y V) ⟨?_, ?_, ?_⟩ ?_
      · rw [HPe.out.1, HPe.out.2.1, HPe.out.2.2]
        have hb := (HW.out.2.1).set_ 2 (.int .i64 (Q3 + 1))
        first
          | (simpa [incN] using hb)
          | (simp [incN]; exact hb)
      · exact (HW.out.2.2.2.1.far (by show g + 3 ≠ _; simp) _)
      · exact (HW.out.2.2.1.drewN nq).set_ (p := ⟨g + 4, 2, none⟩) (.inl (.inl rfl)) _
      clear k1 k4 m1 m4 g4 ks ms kn mn HW HPe
      rintro V ⟨b4, b3, ho⟩
      have v4 := b4.cell
      have v3 := b3.cell
      have n4 := b4.lt
      have n3 := b3.lt
      have fv4 := b4.free
      have HV := Lib.hid (And.intro b4 (And.intro b3 ho))
      clear b4 b3 ho
      go_wp2_with fail
      refine wp_loop_rounds 4 ?_
      rw [rounds_succ]
      go_wp2_with fail
      go_big_region
      go_wp2_with fail
      rw [rounds_succ]
      refine forget (fun V => Bk V (g + 4) #[.int .i64 P1, .int .i64 P2, .int .i64 P3] 3 ∧ Bk V (g + 3) #[.int .i64 1] 3 ∧ Only (fun b => b = g + 4 ∨ b = g + 5) Y V) ⟨?_, ?_, ?_⟩ ?_
      · exact set_eq2 HV.out.1 rfl
      · exact HV.out.2.1.far (by show g + 3 ≠ _; simp) _
      · exact (HV.out.2.2.set_ (p := ⟨g + 4, 0, none⟩) (.inl (.inl rfl)) _).drew
      clear HV v3 v4 n3 n4 fv4
      rintro V ⟨b4, b3, ho⟩
      have v4 := b4.cell
      have v3 := b3.cell
      have n4 := b4.lt
      have n3 := b3.lt
      have fv4 := b4.free
      have HV := Lib.hid (And.intro b4 (And.intro b3 ho))
      clear b4 b3 ho
      go_wp2_with fail
      go_big_region
      go_wp2_with fail
      rw [rounds_succ]
      refine forget (fun V => Bk V (g + 4) #[.int .i64 P1, .int .i64 P2, .int .i64 P3] 3 ∧ Bk V (g + 3) #[.int .i64 1] 3 ∧ Only (fun b => b = g + 4 ∨ b = g + 5) Y V) ⟨?_, ?_, ?_⟩ ?_
      · exact set_eq2 HV.out.1 rfl
      · exact HV.out.2.1.far (by show g + 3 ≠ _; simp) _
      · exact (HV.out.2.2.set_ (p := ⟨g + 4, 1, none⟩) (.inl (.inl rfl)) _).drew
      clear HV v3 v4 n3 n4 fv4
      rintro V ⟨b4, b3, ho⟩
      have v4 := b4.cell
      have v3 := b3.cell
      have n4 := b4.lt
      have n3 := b3.lt
      have fv4 := b4.free
      have HV := Lib.hid (And.intro b4 (And.intro b3 ho))
      clear b4 b3 ho
      go_wp2_with fail
      go_big_region
      go_wp2_with fail
      rw [rounds_succ]
      refine forget (fun V => Bk V (g + 4) #[.int .i64 P1, .int .i64 P2, .int .i64 P3] 3 ∧ Bk V (g + 3) #[.int .i64 1] 3 ∧ Only (fun b => b = g + 4 ∨ b = g + 5) Y V) ⟨?_, ?_, ?_⟩ ?_
      · exact set_eq2 HV.out.1 rfl
      · exact HV.out.2.1.far (by show g + 3 ≠ _; simp) _
      · exact (HV.out.2.2.set_ (p := ⟨g + 4, 2, none⟩) (.inl (.inl rfl)) _).drew
      clear HV v3 v4 n3 n4 fv4
      rintro V ⟨b4, b3, ho⟩
      have v4 := b4.cell
      have v3 := b3.cell
      have n4 := b4.lt
      have n3 := b3.lt
      have fv4 := b4.free
      have HV := Lib.hid (And.intro b4 (And.intro b3 ho))
      clear b4 b3 ho
      go_wp2_with fail
      go_wp2_with fail
      go_ret2
      exact ⟨g + 4, rfl, by rw [HPS.out]; exact HV.out.1, by rw [hg]; exact Hw.out.trans (HV.out.2.2.to_below (fun b hb => by omega) (by have := HYs.out; omega))⟩
  · rcases HO6.out with hq | hq | hq | hq | hq | hq
    · simp only [Prod.mk.injEq] at hq
      obtain ⟨rfl, rfl, rfl⟩ := hq
      go_wp2_with fail
      go_quiet ((go_at_call 56; refine Calls.quiet_of_same (Calls.mono (hsum.out _ ?_) fun _ _ h => ⟨h.1, h.2.symm⟩); exact HW.out.2.1))
      go_wp2_with fail
      refine wp_loop_rounds 3 ?_
      rw [rounds_succ]
      go_wp2_with fail
      rw [rounds_succ]
      go_wp2_with fail
      rw [rounds_succ]
      go_wp2_with fail
      refine forget (fun V => Bk V (g + 4) #[.int .i64 P1, .int .i64 P2, .int .i64 P3] 3 ∧ Bk V (g + 3) #[.int .i64 1] 3 ∧ Only (fun b => b = g + 4 ∨ b = g + 5) Y V) ⟨?_, ?_, ?_⟩ ?_
      · rw [HPe.out.1, HPe.out.2.1, HPe.out.2.2]
        have hb := ((HW.out.2.1).set_ 0 (.int .i64 (Q1 + 1))).set_ 1 (.int .i64 (Q2 + 1))
        first
          | (simpa [incN] using hb)
          | (simp [incN]; exact hb)
      · exact ((HW.out.2.2.2.1.far (by show g + 3 ≠ _; simp) _).far (by show g + 3 ≠ _; simp) _)
      · exact ((HW.out.2.2.1.drewN nq).set_ (p := ⟨g + 4, 0, none⟩) (.inl (.inl rfl)) _).set_ (p := ⟨g + 4, 1, none⟩) (.inl (.inl rfl)) _
      clear k1 k4 m1 m4 g4 ks ms kn mn HW HPe
      rintro V ⟨b4, b3, ho⟩
      have v4 := b4.cell
      have v3 := b3.cell
      have n4 := b4.lt
      have n3 := b3.lt
      have fv4 := b4.free
      have HV := Lib.hid (And.intro b4 (And.intro b3 ho))
      clear b4 b3 ho
      go_wp2_with fail
      refine wp_loop_rounds 4 ?_
      rw [rounds_succ]
      go_wp2_with fail
      go_big_region
      go_wp2_with fail
      rw [rounds_succ]
      refine forget (fun V => Bk V (g + 4) #[.int .i64 P1, .int .i64 P2, .int .i64 P3] 3 ∧ Bk V (g + 3) #[.int .i64 1] 3 ∧ Only (fun b => b = g + 4 ∨ b = g + 5) Y V) ⟨?_, ?_, ?_⟩ ?_
      · exact set_eq2 HV.out.1 rfl
      · exact HV.out.2.1.far (by show g + 3 ≠ _; simp) _
      · exact (HV.out.2.2.set_ (p := ⟨g + 4, 0, none⟩) (.inl (.inl rfl)) _).drew
      clear HV v3 v4 n3 n4 fv4
      rintro V ⟨b4, b3, ho⟩
      have v4 := b4.cell
      have v3 := b3.cell
      have n4 := b4.lt
      have n3 := b3.lt
      have fv4 := b4.free
      have HV := Lib.hid (And.intro b4 (And.intro b3 ho))
      clear b4 b3 ho
      go_wp2_with fail
      go_big_region
      go_wp2_with fail
      rw [rounds_succ]
      refine forget (fun V => Bk V (g + 4) #[.int .i64 P1, .int .i64 P2, .int .i64 P3] 3 ∧ Bk V (g + 3) #[.int .i64 1] 3 ∧ Only (fun b => b = g + 4 ∨ b = g + 5) Y V) ⟨?_, ?_, ?_⟩ ?_
      · exact set_eq2 HV.out.1 rfl
      · exact HV.out.2.1.far (by show g + 3 ≠ _; simp) _
      · exact (HV.out.2.2.set_ (p := ⟨g + 4, 1, none⟩) (.inl (.inl rfl)) _).drew
      clear HV v3 v4 n3 n4 fv4
      rintro V ⟨b4, b3, ho⟩
      have v4 := b4.cell
      have v3 := b3.cell
      have n4 := b4.lt
      have n3 := b3.lt
      have fv4 := b4.free
      have HV := Lib.hid (And.intro b4 (And.intro b3 ho))
      clear b4 b3 ho
      go_wp2_with fail
      go_big_region
      go_wp2_with fail
      rw [rounds_succ]
      refine forget (fun V => Bk V (g + 4) #[.int .i64 P1, .int .i64 P2, .int .i64 P3] 3 ∧ Bk V (g + 3) #[.int .i64 1] 3 ∧ Only (fun b => b = g + 4 ∨ b = g + 5) Y V) ⟨?_, ?_, ?_⟩ ?_
      · exact set_eq2 HV.out.1 rfl
      · exact HV.out.2.1.far (by show g + 3 ≠ _; simp) _
      · exact (HV.out.2.2.set_ (p := ⟨g + 4, 2, none⟩) (.inl (.inl rfl)) _).drew
      clear HV v3 v4 n3 n4 fv4
      rintro V ⟨b4, b3, ho⟩
      have v4 := b4.cell
      have v3 := b3.cell
      have n4 := b4.lt
      have n3 := b3.lt
      have fv4 := b4.free
      have HV := Lib.hid (And.intro b4 (And.intro b3 ho))
      clear b4 b3 ho
      go_wp2_with fail
      go_wp2_with fail
      go_ret2
      exact ⟨g + 4, rfl, by rw [HPS.out]; exact HV.out.1, by rw [hg]; exact Hw.out.trans (HV.out.2.2.to_below (fun b hb => by omega) (by have := HYs.out; omega))⟩
    · simp only [Prod.mk.injEq] at hq
      obtain ⟨rfl, rfl, rfl⟩ := hq
      go_wp2_with fail
      go_quiet ((go_at_call 56; refine Calls.quiet_of_same (Calls.mono (hsum.out _ ?_) fun _ _ h => ⟨h.1, h.2.symm⟩); exact HW.out.2.1))
      go_wp2_with fail
      refine wp_loop_rounds 3 ?_
      rw [rounds_succ]
      go_wp2_with fail
      rw [rounds_succ]
      go_wp2_with fail
      rw [rounds_succ]
      go_wp2_with fail
      refine forget (fun V => Bk V (g + 4) #[.int .i64 P1, .int .i64 P2, .int .i64 P3] 3 ∧ Bk V (g + 3) #[.int .i64 1] 3 ∧ Only (fun b => b = g + 4 ∨ b = g + 5) Y V) ⟨?_, ?_, ?_⟩ ?_
      · rw [HPe.out.1, HPe.out.2.1, HPe.out.2.2]
        have hb := ((HW.out.2.1).set_ 0 (.int .i64 (Q1 + 1))).set_ 2 (.int .i64 (Q3 + 1))
        first
          | (simpa [incN] using hb)
          | (simp [incN]; exact hb)
      · exact ((HW.out.2.2.2.1.far (by show g + 3 ≠ _; simp) _).far (by show g + 3 ≠ _; simp) _)
      · exact ((HW.out.2.2.1.drewN nq).set_ (p := ⟨g + 4, 0, none⟩) (.inl (.inl rfl)) _).set_ (p := ⟨g + 4, 2, none⟩) (.inl (.inl rfl)) _
      clear k1 k4 m1 m4 g4 ks ms kn mn HW HPe
      rintro V ⟨b4, b3, ho⟩
      have v4 := b4.cell
      have v3 := b3.cell
      have n4 := b4.lt
      have n3 := b3.lt
      have fv4 := b4.free
      have HV := Lib.hid (And.intro b4 (And.intro b3 ho))
      clear b4 b3 ho
      go_wp2_with fail
      refine wp_loop_rounds 4 ?_
      rw [rounds_succ]
      go_wp2_with fail
      go_big_region
      go_wp2_with fail
      rw [rounds_succ]
      refine forget (fun V => Bk V (g + 4) #[.int .i64 P1, .int .i64 P2, .int .i64 P3] 3 ∧ Bk V (g + 3) #[.int .i64 1] 3 ∧ Only (fun b => b = g + 4 ∨ b = g + 5) Y V) ⟨?_, ?_, ?_⟩ ?_
      · exact set_eq2 HV.out.1 rfl
      · exact HV.out.2.1.far (by show g + 3 ≠ _; simp) _
      · exact (HV.out.2.2.set_ (p := ⟨g + 4, 0, none⟩) (.inl (.inl rfl)) _).drew
      clear HV v3 v4 n3 n4 fv4
      rintro V ⟨b4, b3, ho⟩
      have v4 := b4.cell
      have v3 := b3.cell
      have n4 := b4.lt
      have n3 := b3.lt
      have fv4 := b4.free
      have HV := Lib.hid (And.intro b4 (And.intro b3 ho))
      clear b4 b3 ho
      go_wp2_with fail
      go_big_region
      go_wp2_with fail
      rw [rounds_succ]
      refine forget (fun V => Bk V (g + 4) #[.int .i64 P1, .int .i64 P2, .int .i64 P3] 3 ∧ Bk V (g + 3) #[.int .i64 1] 3 ∧ Only (fun b => b = g + 4 ∨ b = g + 5) Y V) ⟨?_, ?_, ?_⟩ ?_
      · exact set_eq2 HV.out.1 rfl
      · exact HV.out.2.1.far (by show g + 3 ≠ _; simp) _
      · exact (HV.out.2.2.set_ (p := ⟨g + 4, 1, none⟩) (.inl (.inl rfl)) _).drew
      clear HV v3 v4 n3 n4 fv4
      rintro V ⟨b4, b3, ho⟩
      have v4 := b4.cell
      have v3 := b3.cell
      have n4 := b4.lt
      have n3 := b3.lt
      have fv4 := b4.free
      have HV := Lib.hid (And.intro b4 (And.intro b3 ho))
      clear b4 b3 ho
      go_wp2_with fail
      go_big_region
      go_wp2_with fail
      rw [rounds_succ]
      refine forget (fun V => Bk V (g + 4) #[.int .i64 P1, .int .i64 P2, .int .i64 P3] 3 ∧ Bk V (g + 3) #[.int .i64 1] 3 ∧ Only (fun b => b = g + 4 ∨ b = g + 5) Y V) ⟨?_, ?_, ?_⟩ ?_
      · exact set_eq2 HV.out.1 rfl
      · exact HV.out.2.1.far (by show g + 3 ≠ _; simp) _
      · exact (HV.out.2.2.set_ (p := ⟨g + 4, 2, none⟩) (.inl (.inl rfl)) _).drew
      clear HV v3 v4 n3 n4 fv4
      rintro V ⟨b4, b3, ho⟩
      have v4 := b4.cell
      have v3 := b3.cell
      have n4 := b4.lt
      have n3 := b3.lt
      have fv4 := b4.free
      have HV := Lib.hid (And.intro b4 (And.intro b3 ho))
      clear b4 b3 ho
      go_wp2_with fail
      go_wp2_with fail
      go_ret2
      exact ⟨g + 4, rfl, by rw [HPS.out]; exact HV.out.1, by rw [hg]; exact Hw.out.trans (HV.out.2.2.to_below (fun b hb => by omega) (by have := HYs.out; omega))⟩
    · simp only [Prod.mk.injEq] at hq
      obtain ⟨rfl, rfl, rfl⟩ := hq
      go_wp2_with fail
      go_quiet ((go_at_call 56; refine Calls.quiet_of_same (Calls.mono (hsum.out _ ?_) fun _ _ h => ⟨h.1, h.2.symm⟩); exact HW.out.2.1))
      go_wp2_with fail
      refine wp_loop_rounds 3 ?_
      rw [rounds_succ]
      go_wp2_with fail
      rw [rounds_succ]
      go_wp2_with fail
      rw [rounds_succ]
      go_wp2_with fail
      refine forget (fun V => Bk V (g + 4) #[.int .i64 P1, .int .i64 P2, .int .i64 P3] 3 ∧ Bk V (g + 3) #[.int .i64 1] 3 ∧ Only (fun b => b = g + 4 ∨ b = g + 5) Y V) ⟨?_, ?_, ?_⟩ ?_
      · rw [HPe.out.1, HPe.out.2.1, HPe.out.2.2]
        have hb := ((HW.out.2.1).set_ 1 (.int .i64 (Q2 + 1))).set_ 0 (.int .i64 (Q1 + 1))
        first
          | (simpa [incN] using hb)
          | (simp [incN]; exact hb)
      · exact ((HW.out.2.2.2.1.far (by show g + 3 ≠ _; simp) _).far (by show g + 3 ≠ _; simp) _)
      · exact ((HW.out.2.2.1.drewN nq).set_ (p := ⟨g + 4, 1, none⟩) (.inl (.inl rfl)) _).set_ (p := ⟨g + 4, 0, none⟩) (.inl (.inl rfl)) _
      clear k1 k4 m1 m4 g4 ks ms kn mn HW HPe
      rintro V ⟨b4, b3, ho⟩
      have v4 := b4.cell
      have v3 := b3.cell
      have n4 := b4.lt
      have n3 := b3.lt
      have fv4 := b4.free
      have HV := Lib.hid (And.intro b4 (And.intro b3 ho))
      clear b4 b3 ho
      go_wp2_with fail
      refine wp_loop_rounds 4 ?_
      rw [rounds_succ]
      go_wp2_with fail
      go_big_region
      go_wp2_with fail
      rw [rounds_succ]
      refine forget (fun V => Bk V (g + 4) #[.int .i64 P1, .int .i64 P2, .int .i64 P3] 3 ∧ Bk V (g + 3) #[.int .i64 1] 3 ∧ Only (fun b => b = g + 4 ∨ b = g + 5) Y V) ⟨?_, ?_, ?_⟩ ?_
      · exact set_eq2 HV.out.1 rfl
      · exact HV.out.2.1.far (by show g + 3 ≠ _; simp) _
      · exact (HV.out.2.2.set_ (p := ⟨g + 4, 0, none⟩) (.inl (.inl rfl)) _).drew
      clear HV v3 v4 n3 n4 fv4
      rintro V ⟨b4, b3, ho⟩
      have v4 := b4.cell
      have v3 := b3.cell
      have n4 := b4.lt
      have n3 := b3.lt
      have fv4 := b4.free
      have HV := Lib.hid (And.intro b4 (And.intro b3 ho))
      clear b4 b3 ho
      go_wp2_with fail
      go_big_region
      go_wp2_with fail
      rw [rounds_succ]
      refine forget (fun V => Bk V (g + 4) #[.int .i64 P1, .int .i64 P2, .int .i64 P3] 3 ∧ Bk V (g + 3) #[.int .i64 1] 3 ∧ Only (fun b => b = g + 4 ∨ b = g + 5) Y V) ⟨?_, ?_, ?_⟩ ?_
      · exact set_eq2 HV.out.1 rfl
      · exact HV.out.2.1.far (by show g + 3 ≠ _; simp) _
      · exact (HV.out.2.2.set_ (p := ⟨g + 4, 1, none⟩) (.inl (.inl rfl)) _).drew
      clear HV v3 v4 n3 n4 fv4
      rintro V ⟨b4, b3, ho⟩
      have v4 := b4.cell
      have v3 := b3.cell
      have n4 := b4.lt
      have n3 := b3.lt
      have fv4 := b4.free
      have HV := Lib.hid (And.intro b4 (And.intro b3 ho))
      clear b4 b3 ho
      go_wp2_with fail
      go_big_region
      go_wp2_with fail
      rw [rounds_succ]
      refine forget (fun V => Bk V (g + 4) #[.int .i64 P1, .int .i64 P2, .int .i64 P3] 3 ∧ Bk V (g + 3) #[.int .i64 1] 3 ∧ Only (fun b => b = g + 4 ∨ b = g + 5) Y V) ⟨?_, ?_, ?_⟩ ?_
      · exact set_eq2 HV.out.1 rfl
      · exact HV.out.2.1.far (by show g + 3 ≠ _; simp) _
      · exact (HV.out.2.2.set_ (p := ⟨g + 4, 2, none⟩) (.inl (.inl rfl)) _).drew
      clear HV v3 v4 n3 n4 fv4
      rintro V ⟨b4, b3, ho⟩
      have v4 := b4.cell
      have v3 := b3.cell
      have n4 := b4.lt
      have n3 := b3.lt
      have fv4 := b4.free
      have HV := Lib.hid (And.intro b4 (And.intro b3 ho))
      clear b4 b3 ho
      go_wp2_with fail
      go_wp2_with fail
      go_ret2
      exact ⟨g + 4, rfl, by rw [HPS.out]; exact HV.out.1, by rw [hg]; exact Hw.out.trans (HV.out.2.2.to_below (fun b hb => by omega) (by have := HYs.out; omega))⟩
    · simp only [Prod.mk.injEq] at hq
      obtain ⟨rfl, rfl, rfl⟩ := hq
      go_wp2_with fail
      go_quiet ((go_at_call 56; refine Calls.quiet_of_same (Calls.mono (hsum.out _ ?_) fun _ _ h => ⟨h.1, h.2.symm⟩); exact HW.out.2.1))
      go_wp2_with fail
      refine wp_loop_rounds 3 ?_
      rw [rounds_succ]
      go_wp2_with fail
      rw [rounds_succ]
      go_wp2_with fail
      rw [rounds_succ]
      go_wp2_with fail
      refine forget (fun V => Bk V (g + 4) #[.int .i64 P1, .int .i64 P2, .int .i64 P3] 3 ∧ Bk V (g + 3) #[.int .i64 1] 3 ∧ Only (fun b => b = g + 4 ∨ b = g + 5) Y V) ⟨?_, ?_, ?_⟩ ?_
      · rw [HPe.out.1, HPe.out.2.1, HPe.out.2.2]
        have hb := ((HW.out.2.1).set_ 1 (.int .i64 (Q2 + 1))).set_ 2 (.int .i64 (Q3 + 1))
        first
          | (simpa [incN] using hb)
          | (simp [incN]; exact hb)
      · exact ((HW.out.2.2.2.1.far (by show g + 3 ≠ _; simp) _).far (by show g + 3 ≠ _; simp) _)
      · exact ((HW.out.2.2.1.drewN nq).set_ (p := ⟨g + 4, 1, none⟩) (.inl (.inl rfl)) _).set_ (p := ⟨g + 4, 2, none⟩) (.inl (.inl rfl)) _
      clear k1 k4 m1 m4 g4 ks ms kn mn HW HPe
      rintro V ⟨b4, b3, ho⟩
      have v4 := b4.cell
      have v3 := b3.cell
      have n4 := b4.lt
      have n3 := b3.lt
      have fv4 := b4.free
      have HV := Lib.hid (And.intro b4 (And.intro b3 ho))
      clear b4 b3 ho
      go_wp2_with fail
      refine wp_loop_rounds 4 ?_
      rw [rounds_succ]
      go_wp2_with fail
      go_big_region
      go_wp2_with fail
      rw [rounds_succ]
      refine forget (fun V => Bk V (g + 4) #[.int .i64 P1, .int .i64 P2, .int .i64 P3] 3 ∧ Bk V (g + 3) #[.int .i64 1] 3 ∧ Only (fun b => b = g + 4 ∨ b = g + 5) Y V) ⟨?_, ?_, ?_⟩ ?_
      · exact set_eq2 HV.out.1 rfl
      · exact HV.out.2.1.far (by show g + 3 ≠ _; simp) _
      · exact (HV.out.2.2.set_ (p := ⟨g + 4, 0, none⟩) (.inl (.inl rfl)) _).drew
      clear HV v3 v4 n3 n4 fv4
      rintro V ⟨b4, b3, ho⟩
      have v4 := b4.cell
      have v3 := b3.cell
      have n4 := b4.lt
      have n3 := b3.lt
      have fv4 := b4.free
      have HV := Lib.hid (And.intro b4 (And.intro b3 ho))
      clear b4 b3 ho
      go_wp2_with fail
      go_big_region
      go_wp2_with fail
      rw [rounds_succ]
      refine forget (fun V => Bk V (g + 4) #[.int .i64 P1, .int .i64 P2, .int .i64 P3] 3 ∧ Bk V (g + 3) #[.int .i64 1] 3 ∧ Only (fun b => b = g + 4 ∨ b = g + 5) Y V) ⟨?_, ?_, ?_⟩ ?_
      · exact set_eq2 HV.out.1 rfl
      · exact HV.out.2.1.far (by show g + 3 ≠ _; simp) _
      · exact (HV.out.2.2.set_ (p := ⟨g + 4, 1, none⟩) (.inl (.inl rfl)) _).drew
      clear HV v3 v4 n3 n4 fv4
      rintro V ⟨b4, b3, ho⟩
      have v4 := b4.cell
      have v3 := b3.cell
      have n4 := b4.lt
      have n3 := b3.lt
      have fv4 := b4.free
      have HV := Lib.hid (And.intro b4 (And.intro b3 ho))
      clear b4 b3 ho
      go_wp2_with fail
      go_big_region
      go_wp2_with fail
      rw [rounds_succ]
      refine forget (fun V => Bk V (g + 4) #[.int .i64 P1, .int .i64 P2, .int .i64 P3] 3 ∧ Bk V (g + 3) #[.int .i64 1] 3 ∧ Only (fun b => b = g + 4 ∨ b = g + 5) Y V) ⟨?_, ?_, ?_⟩ ?_
      · exact set_eq2 HV.out.1 rfl
      · exact HV.out.2.1.far (by show g + 3 ≠ _; simp) _
      · exact (HV.out.2.2.set_ (p := ⟨g + 4, 2, none⟩) (.inl (.inl rfl)) _).drew
      clear HV v3 v4 n3 n4 fv4
      rintro V ⟨b4, b3, ho⟩
      have v4 := b4.cell
      have v3 := b3.cell
      have n4 := b4.lt
      have n3 := b3.lt
      have fv4 := b4.free
      have HV := Lib.hid (And.intro b4 (And.intro b3 ho))
      clear b4 b3 ho
      go_wp2_with fail
      go_wp2_with fail
      go_ret2
      exact ⟨g + 4, rfl, by rw [HPS.out]; exact HV.out.1, by rw [hg]; exact Hw.out.trans (HV.out.2.2.to_below (fun b hb => by omega) (by have := HYs.out; omega))⟩
    · simp only [Prod.mk.injEq] at hq
      obtain ⟨rfl, rfl, rfl⟩ := hq
      go_wp2_with fail
      go_quiet ((go_at_call 56; refine Calls.quiet_of_same (Calls.mono (hsum.out _ ?_) fun _ _ h => ⟨h.1, h.2.symm⟩); exact HW.out.2.1))
      go_wp2_with fail
      refine wp_loop_rounds 3 ?_
      rw [rounds_succ]
      go_wp2_with fail
      rw [rounds_succ]
      go_wp2_with fail
      rw [rounds_succ]
      go_wp2_with fail
      refine forget (fun V => Bk V (g + 4) #[.int .i64 P1, .int .i64 P2, .int .i64 P3] 3 ∧ Bk V (g + 3) #[.int .i64 1] 3 ∧ Only (fun b => b = g + 4 ∨ b = g + 5) Y V) ⟨?_, ?_, ?_⟩ ?_
      · rw [HPe.out.1, HPe.out.2.1, HPe.out.2.2]
        have hb := ((HW.out.2.1).set_ 2 (.int .i64 (Q3 + 1))).set_ 0 (.int .i64 (Q1 + 1))
        first
          | (simpa [incN] using hb)
          | (simp [incN]; exact hb)
      · exact ((HW.out.2.2.2.1.far (by show g + 3 ≠ _; simp) _).far (by show g + 3 ≠ _; simp) _)
      · exact ((HW.out.2.2.1.drewN nq).set_ (p := ⟨g + 4, 2, none⟩) (.inl (.inl rfl)) _).set_ (p := ⟨g + 4, 0, none⟩) (.inl (.inl rfl)) _
      clear k1 k4 m1 m4 g4 ks ms kn mn HW HPe
      rintro V ⟨b4, b3, ho⟩
      have v4 := b4.cell
      have v3 := b3.cell
      have n4 := b4.lt
      have n3 := b3.lt
      have fv4 := b4.free
      have HV := Lib.hid (And.intro b4 (And.intro b3 ho))
      clear b4 b3 ho
      go_wp2_with fail
      refine wp_loop_rounds 4 ?_
      rw [rounds_succ]
      go_wp2_with fail
      go_big_region
      go_wp2_with fail
      rw [rounds_succ]
      refine forget (fun V => Bk V (g + 4) #[.int .i64 P1, .int .i64 P2, .int .i64 P3] 3 ∧ Bk V (g + 3) #[.int .i64 1] 3 ∧ Only (fun b => b = g + 4 ∨ b = g + 5) Y V) ⟨?_, ?_, ?_⟩ ?_
      · exact set_eq2 HV.out.1 rfl
      · exact HV.out.2.1.far (by show g + 3 ≠ _; simp) _
      · exact (HV.out.2.2.set_ (p := ⟨g + 4, 0, none⟩) (.inl (.inl rfl)) _).drew
      clear HV v3 v4 n3 n4 fv4
      rintro V ⟨b4, b3, ho⟩
      have v4 := b4.cell
      have v3 := b3.cell
      have n4 := b4.lt
      have n3 := b3.lt
      have fv4 := b4.free
      have HV := Lib.hid (And.intro b4 (And.intro b3 ho))
      clear b4 b3 ho
      go_wp2_with fail
      go_big_region
      go_wp2_with fail
      rw [rounds_succ]
      refine forget (fun V => Bk V (g + 4) #[.int .i64 P1, .int .i64 P2, .int .i64 P3] 3 ∧ Bk V (g + 3) #[.int .i64 1] 3 ∧ Only (fun b => b = g + 4 ∨ b = g + 5) Y V) ⟨?_, ?_, ?_⟩ ?_
      · exact set_eq2 HV.out.1 rfl
      · exact HV.out.2.1.far (by show g + 3 ≠ _; simp) _
      · exact (HV.out.2.2.set_ (p := ⟨g + 4, 1, none⟩) (.inl (.inl rfl)) _).drew
      clear HV v3 v4 n3 n4 fv4
      rintro V ⟨b4, b3, ho⟩
      have v4 := b4.cell
      have v3 := b3.cell
      have n4 := b4.lt
      have n3 := b3.lt
      have fv4 := b4.free
      have HV := Lib.hid (And.intro b4 (And.intro b3 ho))
      clear b4 b3 ho
      go_wp2_with fail
      go_big_region
      go_wp2_with fail
      rw [rounds_succ]
      refine forget (fun V => Bk V (g + 4) #[.int .i64 P1, .int .i64 P2, .int .i64 P3] 3 ∧ Bk V (g + 3) #[.int .i64 1] 3 ∧ Only (fun b => b = g + 4 ∨ b = g + 5) Y V) ⟨?_, ?_, ?_⟩ ?_
      · exact set_eq2 HV.out.1 rfl
      · exact HV.out.2.1.far (by show g + 3 ≠ _; simp) _
      · exact (HV.out.2.2.set_ (p := ⟨g + 4, 2, none⟩) (.inl (.inl rfl)) _).drew
      clear HV v3 v4 n3 n4 fv4
      rintro V ⟨b4, b3, ho⟩
      have v4 := b4.cell
      have v3 := b3.cell
      have n4 := b4.lt
      have n3 := b3.lt
      have fv4 := b4.free
      have HV := Lib.hid (And.intro b4 (And.intro b3 ho))
      clear b4 b3 ho
      go_wp2_with fail
      go_wp2_with fail
      go_ret2
      exact ⟨g + 4, rfl, by rw [HPS.out]; exact HV.out.1, by rw [hg]; exact Hw.out.trans (HV.out.2.2.to_below (fun b hb => by omega) (by have := HYs.out; omega))⟩
    · simp only [Prod.mk.injEq] at hq
      obtain ⟨rfl, rfl, rfl⟩ := hq
      go_wp2_with fail
      go_quiet ((go_at_call 56; refine Calls.quiet_of_same (Calls.mono (hsum.out _ ?_) fun _ _ h => ⟨h.1, h.2.symm⟩); exact HW.out.2.1))
      go_wp2_with fail
      refine wp_loop_rounds 3 ?_
      rw [rounds_succ]
      go_wp2_with fail
      rw [rounds_succ]
      go_wp2_with fail
      rw [rounds_succ]
      go_wp2_with fail
      refine forget (fun V => Bk V (g + 4) #[.int .i64 P1, .int .i64 P2, .int .i64 P3] 3 ∧ Bk V (g + 3) #[.int .i64 1] 3 ∧ Only (fun b => b = g + 4 ∨ b = g + 5) Y V) ⟨?_, ?_, ?_⟩ ?_
      · rw [HPe.out.1, HPe.out.2.1, HPe.out.2.2]
        have hb := ((HW.out.2.1).set_ 2 (.int .i64 (Q3 + 1))).set_ 1 (.int .i64 (Q2 + 1))
        first
          | (simpa [incN] using hb)
          | (simp [incN]; exact hb)
      · exact ((HW.out.2.2.2.1.far (by show g + 3 ≠ _; simp) _).far (by show g + 3 ≠ _; simp) _)
      · exact ((HW.out.2.2.1.drewN nq).set_ (p := ⟨g + 4, 2, none⟩) (.inl (.inl rfl)) _).set_ (p := ⟨g + 4, 1, none⟩) (.inl (.inl rfl)) _
      clear k1 k4 m1 m4 g4 ks ms kn mn HW HPe
      rintro V ⟨b4, b3, ho⟩
      have v4 := b4.cell
      have v3 := b3.cell
      have n4 := b4.lt
      have n3 := b3.lt
      have fv4 := b4.free
      have HV := Lib.hid (And.intro b4 (And.intro b3 ho))
      clear b4 b3 ho
      go_wp2_with fail
      refine wp_loop_rounds 4 ?_
      rw [rounds_succ]
      go_wp2_with fail
      go_big_region
      go_wp2_with fail
      rw [rounds_succ]
      refine forget (fun V => Bk V (g + 4) #[.int .i64 P1, .int .i64 P2, .int .i64 P3] 3 ∧ Bk V (g + 3) #[.int .i64 1] 3 ∧ Only (fun b => b = g + 4 ∨ b = g + 5) Y V) ⟨?_, ?_, ?_⟩ ?_
      · exact set_eq2 HV.out.1 rfl
      · exact HV.out.2.1.far (by show g + 3 ≠ _; simp) _
      · exact (HV.out.2.2.set_ (p := ⟨g + 4, 0, none⟩) (.inl (.inl rfl)) _).drew
      clear HV v3 v4 n3 n4 fv4
      rintro V ⟨b4, b3, ho⟩
      have v4 := b4.cell
      have v3 := b3.cell
      have n4 := b4.lt
      have n3 := b3.lt
      have fv4 := b4.free
      have HV := Lib.hid (And.intro b4 (And.intro b3 ho))
      clear b4 b3 ho
      go_wp2_with fail
      go_big_region
      go_wp2_with fail
      rw [rounds_succ]
      refine forget (fun V => Bk V (g + 4) #[.int .i64 P1, .int .i64 P2, .int .i64 P3] 3 ∧ Bk V (g + 3) #[.int .i64 1] 3 ∧ Only (fun b => b = g + 4 ∨ b = g + 5) Y V) ⟨?_, ?_, ?_⟩ ?_
      · exact set_eq2 HV.out.1 rfl
      · exact HV.out.2.1.far (by show g + 3 ≠ _; simp) _
      · exact (HV.out.2.2.set_ (p := ⟨g + 4, 1, none⟩) (.inl (.inl rfl)) _).drew
      clear HV v3 v4 n3 n4 fv4
      rintro V ⟨b4, b3, ho⟩
      have v4 := b4.cell
      have v3 := b3.cell
      have n4 := b4.lt
      have n3 := b3.lt
      have fv4 := b4.free
      have HV := Lib.hid (And.intro b4 (And.intro b3 ho))
      clear b4 b3 ho
      go_wp2_with fail
      go_big_region
      go_wp2_with fail
      rw [rounds_succ]
      refine forget (fun V => Bk V (g + 4) #[.int .i64 P1, .int .i64 P2, .int .i64 P3] 3 ∧ Bk V (g + 3) #[.int .i64 1] 3 ∧ Only (fun b => b = g + 4 ∨ b = g + 5) Y V) ⟨?_, ?_, ?_⟩ ?_
      · exact set_eq2 HV.out.1 rfl
      · exact HV.out.2.1.far (by show g + 3 ≠ _; simp) _
      · exact (HV.out.2.2.set_ (p := ⟨g + 4, 2, none⟩) (.inl (.inl rfl)) _).drew
      clear HV v3 v4 n3 n4 fv4
      rintro V ⟨b4, b3, ho⟩
      have v4 := b4.cell
      have v3 := b3.cell
      have n4 := b4.lt
      have n3 := b3.lt
      have fv4 := b4.free
      have HV := Lib.hid (And.intro b4 (And.intro b3 ho))
      clear b4 b3 ho
      go_wp2_with fail
      go_wp2_with fail
      go_ret2
      exact ⟨g + 4, rfl, by rw [HPS.out]; exact HV.out.1, by rw [hg]; exact Hw.out.trans (HV.out.2.2.to_below (fun b hb => by omega) (by have := HYs.out; omega))⟩
end Go.Proofs.Ytggmihnhdojepaa
