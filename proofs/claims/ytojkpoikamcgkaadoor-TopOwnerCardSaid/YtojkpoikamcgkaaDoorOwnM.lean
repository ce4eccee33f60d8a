/- Layer 30 (title): steps, an iterator over the transfers. -/
import Derived.Test.YtojkpoikamcgkaaDoorOwnK
import Derived.Test.YtojkpoikamcgkaaDoorRound
namespace Go.Proofs.YtojkpoikamcgkaaDoor
open Go.RowKit Go.Shelf
set_option linter.unusedVariables false
set_option linter.unusedSimpArgs false
attribute [local go_sem] ext_cell ext_frozen lt_ext ext_drew
attribute [local go_sem] Oper.semAt_some

abbrev titV (se sh pl : Int) (fi : ByteArray) (A : Option Addr) (n cap : Nat) : Array Value := #[.int .i64 se, .int .i64 sh, .int .i64 pl, .string fi, .slice A n cap]
set_option maxRecDepth 100000 in
set_option maxHeartbeats 1000000 in
theorem steps_any (se sh pl : Int) (fi : ByteArray) (A : Option Addr) (n cap : Nat) (w : World) :
    Calls Tryd.prog 16 #[.agg #[.int .i64 se, .int .i64 sh, .int .i64 pl, .string fi, .slice A n cap]] w fun e w' => e = .returned (.func (.func 36) #[] #[.pointer (some ⟨w.heap.size, 0, none⟩)]) ∧ w' = w.alloc (.cells #[.int .i64 se, .int .i64 sh, .int .i64 pl, .string fi, .slice A n cap] 24) := by
  go_enter Tryd.func16, Tryd.ntmps16
  go_wp2_with fail
  go_ret
  exact ⟨rfl, rfl⟩
/-- What a round is handed. -/
def stepV (se sh pl : Int) (fi : ByteArray) (A : Option Addr) (cap : Nat) (ch : List Tr) (AS : Nat → Option Addr) (cs : Nat → Nat) (k : Fin ch.length) : Array Value :=
  #[.agg #[.int .i64 se, .int .i64 sh, .int .i64 pl, .string fi, .slice A k.1 cap], .agg #[.string ch[k.1].1, .slice (AS k.1) ch[k.1].2.length (cs k.1)]]
set_option maxRecDepth 100000 in
set_option maxHeartbeats 1000000 in
theorem steps1_in (n l Bn n₀ : Nat) (se sh pl : Int) (fi : ByteArray) (A : Option Addr) (cap : Nat) (ch : List Tr) (AS : Nat → Option Addr) (cs : Nat → Nat) (hcap : ch.length ≤ cap) (hmax : cap ≤ maxLen) (hBn : Bn < n₀) (J Jx : List (Fin ch.length) → World → Prop)
    (hY : ∀ pre x W, J pre W → pre.length < ch.length → YieldAt Fence.wide (n - 1) Tryd.prog l (stepV se sh pl fi A cap ch AS cs x) W fun e W' =>
      (e = .returned (.bool true) ∧ J (pre ++ [x]) W' ∧ Below n₀ W W') ∨ (e = .returned (.bool false) ∧ Jx (pre ++ [x]) W'))
    (W : World) (hJ : AbidesFrom W.heap.size J) (hn₀ : n₀ ≤ W.heap.size) (hB : Bk W Bn (titV se sh pl fi A ch.length cap) 24)
    (hE : ∀ k (h : k < ch.length), ∃ b off, A = some ⟨b, off, none⟩ ∧ b < n₀ ∧ W.cell? ⟨b, off + k * 2, none⟩ = some (.string ch[k].1) ∧ W.cell? ⟨b, off + k * 2 + 1, none⟩ = some (.slice (AS k) ch[k].2.length (cs k)))
    (h0 : J [] W) :
    CallsIn Fence.wide n Tryd.prog 36 #[.func (.yield l) #[] #[], .pointer (some ⟨Bn, 0, none⟩)] W fun e W' => (∃ v, e = .returned v) ∧
      ((∃ ys : List (Fin ch.length), ys.map (·.1) = List.range ch.length ∧ J ys W') ∨ (∃ pre, True ∧ Jx pre W')) := by
  unfold maxLen at hmax
  have c4 := hB.cell 4
  have HH := Lib.hid (And.intro hE (And.intro h0 hB))
  clear hE h0 hB
  refine callsIn_of_wp Tryd.func36 rfl trivial ?_ rfl
  simp only [Tryd.ntmps36, List.size_toArray, List.length_cons, List.length_nil, Nat.reduceAdd, Nat.reduceSub, Array.replicate_succ, Array.replicate_zero, List.push_toArray, List.append_toArray, List.nil_append, List.cons_append]
  gi_wp2
  gi_loopw [3, 4, 5, 9] (fun _ _ _ i wr => ∃ (k : Nat) (pre : List (Fin ch.length)), k ≤ ch.length ∧ i = .int .i64 k ∧ pre.map (·.1) = List.range k ∧ J pre wr ∧ Below n₀ W wr)
    (fun _ _ _ i _ => ch.length - (intOf i).toNat)
  case atStart => exact ⟨0, [], by omega, rfl, rfl, HH.out.2.1, Below.refl _ _⟩
  case round =>
    obtain ⟨k, pre, hk, rfl, hpre, hJs, hnx⟩ := hrel
    generalize wr = wA at *
    have hz := hnx.size
    by_cases hlt : k < ch.length
    · obtain ⟨b, off, rfl, hb, d0, d1⟩ := HH.out.1 k hlt
      have e0 := (hnx.cell (p := ⟨b, off + k * 2, none⟩) hb).trans d0
      have e1 := (hnx.cell (p := ⟨b, off + k * 2 + 1, none⟩) hb).trans d1
      have bw : b < wA.heap.size := by omega
      have hBn2 : Bn < wA.heap.size := by omega
      have bB : Bk wA Bn _ 24 := (hnx.block Bn hBn).trans HH.out.2.2
      have b0 := bB.cell 0
      have b1 := bB.cell 1
      have b2 := bB.cell 2
      have b3 := bB.cell 3
      have b4 := bB.cell 4
      have hkl : (k : Int) < (ch.length : Int) := by omega
      have hkc : (k : Int) ≤ (cap : Int) := by omega
      have hkc2 : k ≤ cap := by omega
      have hk0 : (0 : Int) ≤ (k : Int) := by omega
      have hJ2 : J pre ((wA.alloc (.cells #[.string ch[k].1, .slice (AS k) ch[k].2.length (cs k)] 27)).alloc (.cells #[.int .i64 se, .int .i64 sh, .int .i64 pl, .string fi, .slice (some ⟨b, off, none⟩) k cap] 24)) :=
        hJ _ _ _ none (hJ _ _ _ none hJs (World.grownBy_alloc _ _ none) (fun r e => by cases e)) (World.grownBy_alloc _ _ none) (fun r e => by cases e)
      obtain ⟨fn, tmps, assign, body, hy, hR⟩ := hY pre ⟨k, hlt⟩ _ hJ2 (by have := congrArg List.length hpre; simp at this; omega)
      unfold stepV at hy
      dsimp only at hy
      have HJ := Lib.hid (And.intro hpre hnx)
      clear hJ2 hJs hpre hnx bB d0 d1
      obtain ⟨t1, ht1⟩ : ∃ t, ch[k].1 = t := ⟨_, rfl⟩
      obtain ⟨t2, ht2⟩ : ∃ t, ch[k].2.length = t := ⟨_, rfl⟩
      rw [ht1, ht2] at hy hR
      rw [ht1] at e0
      rw [ht2] at e1
      gi_wp2
      refine ⟨fun h => (by cases h), hR.mono ?_⟩
      rintro e W3 (⟨rfl, hJ3, hk3⟩ | ⟨rfl, hJx3⟩)
      · gi_wp2
        go_roundw
        case rel => exact ⟨k + 1, pre ++ [⟨k, hlt⟩], by omega, by go_num, by rw [List.map_append, HJ.out.1, List.range_succ]; rfl, hJ3, HJ.out.2.trans (Below.trans (Below.alloc (Below.alloc (Below.refl _ _) (by omega) _) (by simp; omega) _) hk3)⟩
        case measure => simp [intOf]; omega
      · gi_wp2
        refine bodyPost_ret (results_none Tryd.results36 _ _ _) rfl ?_
        exact ⟨⟨_, rfl⟩, .inr ⟨_, trivial, hJx3⟩⟩
    · obtain rfl : k = ch.length := by omega
      gi_wp2
      go_end0
      exact ⟨⟨_, rfl⟩, .inl ⟨_, hpre, hJs⟩⟩
end Go.Proofs.YtojkpoikamcgkaaDoor
