/- Layer 3 (sign): starts, an iterator. (Under way: region 3 of starts$1.) -/
import Derived.Test.YtojkpoikamcgkaaDoorOwnN
namespace Go.Proofs.YtojkpoikamcgkaaDoor
open Go.RowKit Go.Shelf
set_option linter.unusedVariables false
set_option linter.unusedSimpArgs false
attribute [local go_sem] ext_cell ext_frozen lt_ext ext_drew
attribute [local go_sem] Oper.semAt_some

theorem grownBy_of_below {W X : World} (h : Below W.heap.size W X) : W.grownBy X none := ⟨h.os, h.tape, h.output, h.size, fun k hk _ => h.block k hk⟩
theorem elems_two {w : World} {g : Nat} {a b : ByteArray} (h : Bk w g #[.string a, .string b] 9) (ha : a.size ≤ maxLen) (hb : b.size ≤ maxLen) : Elems tStr w w.heap.size (some ⟨g, 0, none⟩) [a, b] := fun i hi => by
  simp at hi
  rcases i with _ | _ | i
  · refine ⟨g, 0, [.string a], rfl, h.lt, ⟨rfl, ha⟩, fun j u hu => ?_⟩
    rw [h.cell]
    rcases j with _ | j
    · exact hu
    · simp at hu
  · refine ⟨g, 0, [.string b], rfl, h.lt, ⟨rfl, hb⟩, fun j u hu => ?_⟩
    rw [h.cell]
    rcases j with _ | j
    · exact hu
    · simp at hu
  · omega
theorem one_way {F : Fence} {n : Nat} {P : Program} {l : Nat} {f : FuncId} {tmps : Array Value} {assign body : Code} {w : World} {A B : World → Prop}
    (h : RoundIn F n P l f tmps assign body w fun e W' => (e = .returned (.bool true) ∧ A W') ∨ (e = .returned (.bool false) ∧ B W')) :
    RoundIn F n P l f tmps assign body w fun e W' => ∃ r : Bool, e = .returned (.bool r) ∧ (r = true → A W') ∧ (r = false → B W') :=
  h.mono fun e W' h => by
    rcases h with ⟨rfl, h⟩ | ⟨rfl, h⟩
    · exact ⟨true, rfl, (fun _ => h), (fun h => by cases h)⟩
    · exact ⟨false, rfl, (fun h => by cases h), fun _ => h⟩
/-- What lay below n₀ lies as it lay, and so does block Bn. -/
def KpB (n₀ Bn : Nat) (W W' : World) : Prop := Below n₀ W W' ∧ (Bn < W.heap.size → W'.heap[Bn]? = W.heap[Bn]?)
theorem KpB.t {n₀ Bn : Nat} {A B C : World} (h : KpB n₀ Bn A B) (k : KpB n₀ Bn B C) : KpB n₀ Bn A C := ⟨h.1.trans k.1, fun hb => (k.2 (Nat.lt_of_lt_of_le hb h.1.size)).trans (h.2 hb)⟩
theorem KpB.b {n₀ Bn : Nat} {w : World} (hn : n₀ ≤ w.heap.size) (hb : Bn < w.heap.size) (W : World) (l : Nat) (o o' : Obj) (hl : w.heap.size ≤ l) (h : W.heap[l]? = some o) (h1 : o.isCells = false) (h2 : o.isWalk = false) : KpB n₀ Bn W (W.putObj l o') :=
  ⟨belowK_b hn W l o o' hl h h1 h2, fun _ => World.putObj_heap_other (by omega)⟩
theorem KpB.of_below {n₀ Bn : Nat} {W W' : World} (hn : n₀ ≤ W.heap.size) (h : Below W.heap.size W W') : KpB n₀ Bn W W' := ⟨h.mono hn, fun hb => h.block Bn hb⟩
/-- The start of a chain. -/
def startL (secret : ByteArray) (i : Nat) : List UInt8 := listL [secret.data.toList, Lib.itoa i]
set_option maxRecDepth 100000 in
set_option maxHeartbeats 1000000 in
theorem starts_any (secret : ByteArray) (w : World) :
    Calls Tryd.prog 67 #[.string secret] w fun e w' => e = .returned (.func (.func 81) #[] #[.pointer (some ⟨w.heap.size, 0, none⟩)]) ∧ w' = w.alloc (.cells #[.string secret] 9) := by
  go_enter Tryd.func67, Tryd.ntmps67
  go_wp2_with fail
  go_ret
  exact ⟨rfl, rfl⟩
def startV (secret : ByteArray) (k : Fin 18) : Array Value := #[.int .i64 (k.1 : Nat), .string ⟨(startL secret k.1).toArray⟩]
set_option maxRecDepth 100000 in
set_option maxHeartbeats 1000000 in
theorem starts1_in (n l Bn n₀ : Nat) (secret : ByteArray) (hsec : secret.size ≤ 1000) (J Jx : List (Fin 18) → World → Prop)
    (hY : ∀ pre x W, J pre W → pre.length < 18 → YieldAt Fence.wide (n - 1) Tryd.prog l (startV secret x) W fun e W' =>
      (e = .returned (.bool true) ∧ J (pre ++ [x]) W' ∧ KpB n₀ Bn W W') ∨ (e = .returned (.bool false) ∧ Jx (pre ++ [x]) W'))
    (W : World) (hJ : AbidesFrom W.heap.size J) (hn₀ : n₀ ≤ W.heap.size) (hB : Bk W Bn #[.string secret] 9) (ht : ∀ X, Below n₀ W X → Tabs X)
    (h0 : J [] W) :
    CallsIn Fence.wide n Tryd.prog 81 #[.func (.yield l) #[] #[], .pointer (some ⟨Bn, 0, none⟩)] W fun e W' => (∃ v, e = .returned v) ∧
      ((∃ ys : List (Fin 18), ys.map (·.1) = List.range 18 ∧ J ys W') ∨ (∃ pre, True ∧ Jx pre W')) := by
  have HH := Lib.hid (And.intro ht (And.intro h0 hB))
  clear ht h0 hB
  refine callsIn_of_wp Tryd.func81 rfl trivial ?_ rfl
  simp only [Tryd.ntmps81, List.size_toArray, List.length_cons, List.length_nil, Nat.reduceAdd, Nat.reduceSub, Array.replicate_succ, Array.replicate_zero, List.push_toArray, List.append_toArray, List.nil_append, List.cons_append]
  gi_wp2
  gi_loopw [3, 4] (fun _ i wr => ∃ (k : Nat) (pre : List (Fin 18)), k ≤ 18 ∧ i = .int .i64 k ∧ pre.map (·.1) = List.range k ∧ J pre wr ∧ KpB n₀ Bn W wr)
    (fun _ i _ => 18 - (intOf i).toNat)
  case atStart => exact ⟨0, [], by omega, rfl, rfl, HH.out.2.1, ⟨Below.refl _ _, fun _ => rfl⟩⟩
  case round =>
    obtain ⟨k, pre, hk, rfl, hpre, hJs, hnx⟩ := hrel
    generalize wr = wA at *
    have hz := hnx.1.size
    have hBW := HH.out.2.2.lt
    by_cases hlt : k < 18
    · have hkl : (k : Int) < 18 := by omega
      have bB : Bk wA Bn _ 9 := (hnx.2 hBW).trans HH.out.2.2
      have b0 := bB.cell 0
      have hBn2 : Bn < wA.heap.size := by omega
      obtain ⟨IT, hI⟩ : ∃ I : ByteArray, I = ⟨(Lib.itoa (k : Int)).toArray⟩ := ⟨_, rfl⟩
      have hIs : IT.size ≤ 21 := by rw [hI, Lib.size_mk]; exact Lib.itoa_length_le _ (by omega) (by omega)
      have hit := fun (X : World) (hx : Below wA.heap.size wA X) => itoa_any (k : Int) (by omega) (by omega) X (HH.out.1 X (hnx.1.trans (hx.mono (by omega))))
      rw [← hI] at hit
      have hst : (⟨(startL secret k).toArray⟩ : ByteArray) = ⟨(listL (bytesL [secret, IT])).toArray⟩ := by rw [hI]; rfl
      have hli := fun (X : World) (g : Nat) (hx : Below wA.heap.size wA X) (hb : Bk X g #[.string secret, .string IT] 9) => list_anyN (some ⟨g, 0, none⟩) [secret, IT] 2 2 X X.heap.size rfl (elems_two hb (by unfold maxLen; omega) (by unfold maxLen; omega)) (Nat.le_refl _) (by omega) (by
        intro s hs
        simp at hs
        rcases hs with rfl | rfl <;> omega) (HH.out.1 X (hnx.1.trans (hx.mono (by omega))))
      rw [← hst] at hli
      have HC := Lib.hid (And.intro hit (And.intro hli (And.intro hJs (And.intro hnx (And.intro hpre bB)))))
      clear hit hli hst hI bB hJs hnx hpre
      have hm : Tryd.prog.follows .mixedOrders = true := by kernel_rfl
      gi_wp2
      gi_region_with (first
        | (refine ⟨trivial, fun h => (by cases h), ?_⟩; gi_at_call 22; refine (callsIn_wide.2 (HC.out.1 _ (Below.refl _ _).drew)).mono ?_; rintro e w5 ⟨rfl, hbb⟩; have HZ := Lib.hid (Below.trans0 (Below.refl _ _).drew hbb); have b5 := HC.out.2.2.2.2.2.below HZ.out; have c5 := b5.cell 0; have l5 := b5.lt; clear hbb b5)
        | (refine ⟨trivial, fun h => (by cases h), ?_⟩; gi_at_call 21; refine (callsIn_wide.2 (HC.out.2.1 _ _ (Below.alloc0 HZ.out _) (Bk.new _ _ _))).mono ?_; rintro e w6 ⟨rfl, hbb⟩; have HZ2 := Lib.hid (Below.trans0 (Below.alloc0 HZ.out _) hbb); clear hbb; obtain ⟨fn, tmps, assign, body, hy, hR⟩ := hY pre ⟨k, hlt⟩ _ (hJ _ _ _ none HC.out.2.2.1 (grownBy_of_below HZ2.out) (fun r e => by cases e)) (by have := congrArg List.length HC.out.2.2.2.2.1; simp at this; omega); unfold startV at hy; dsimp only at hy)
        | (have hh := one_way hR; clear hR hy; refine ⟨fun h => (by cases h), hh.mono ?_⟩; clear hh; rintro e W3 ⟨r, rfl, hr⟩; have HR := Lib.hid (And.intro hr HZ2.out); clear hr))
      all_goals
        cases r with
        | true =>
          obtain ⟨hJ3, hk3⟩ := HR.out.1.1 rfl
          gi_wp2
          go_roundw
          case rel => exact ⟨k + 1, pre ++ [⟨k, hlt⟩], by omega, by go_num, by rw [List.map_append, HC.out.2.2.2.2.1, List.range_succ]; rfl, hJ3, HC.out.2.2.2.1.t ((KpB.of_below (by omega) HR.out.2).t hk3)⟩
          case measure => simp [intOf]; omega
        | false =>
          have hJx3 := HR.out.1.2 rfl
          gi_wp2
          refine bodyPost_ret (results_none Tryd.results81 _ _ _) rfl ?_
          first
            | exact ⟨⟨_, rfl⟩, .inr ⟨_, trivial, hJx3⟩⟩
            | exact ⟨⟨_, rfl⟩, .inr ⟨_, hJx3⟩⟩
    · obtain rfl : k = 18 := by omega
      gi_wp2
      go_end0
      exact ⟨⟨_, rfl⟩, .inl ⟨_, hpre, hJs⟩⟩
theorem starts_stops (n Bn n₀ : Nat) (secret : ByteArray) (hsec : secret.size ≤ 1000) (W0 : World) (hn₀ : n₀ ≤ W0.heap.size) (hB : Bk W0 Bn #[.string secret] 9) (ht : ∀ X, Below n₀ W0 X → Tabs X) :
    SeqStopsK Fence.wide n Tryd.prog 81 #[.pointer (some ⟨Bn, 0, none⟩)] (startV secret) (KpB n₀ Bn) (fun ys => ys.map (·.1) = List.range 18) (fun _ => True) 18 W0 :=
  fun l J Jx W hW hJ _ hY h0 =>
    starts1_in n l Bn n₀ secret hsec J Jx hY W hJ (Nat.le_trans hn₀ hW.size) ((hW.block Bn hB.lt).trans hB) (fun X hX => ht X ((hW.mono hn₀).trans hX)) h0
end Go.Proofs.YtojkpoikamcgkaaDoor
