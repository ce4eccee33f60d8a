/- Layer 34 (deal): what an account gets; few; what the laws call besides. -/
import Derived.Test.YtggmihnhdojepaaDealT
namespace Go.Proofs.Ytggmihnhdojepaa
open Go.RowKit
set_option linter.unusedVariables false
set_option linter.unusedSimpArgs false
attribute [local go_sem] ext_cell ext_frozen lt_ext ext_drew

/-- What an account gets. -/
def toP (ps : List Pst) (kd : Int) (nm : ByteArray) : Int := ((ps.filter fun p => decide (p.1 = (kd, nm))).map (·.2)).foldr (· + ·) 0
theorem sum_app (a b : List Int) : (a ++ b).foldr (· + ·) 0 = a.foldr (· + ·) 0 + b.foldr (· + ·) 0 := by
  induction a with
  | nil => simp
  | cons x a ih => simp only [List.cons_append, List.foldr_cons] at ih ⊢; omega
theorem toP_take {ps : List Pst} {k : Nat} {p : Pst} (kd : Int) (nm : ByteArray) (h : ps[k]? = some p) : toP (ps.take (k + 1)) kd nm = toP (ps.take k) kd nm + if p.1 = (kd, nm) then p.2 else 0 := by
  unfold toP
  rw [List.take_add_one, h, List.filter_append, List.map_append, sum_app]
  congr 1
  by_cases e : p.1 = (kd, nm) <;> simp [e]
theorem toP_bd {ps : List Pst} (kd : Int) (nm : ByteArray) (hb : ∀ p ∈ ps, -3000000000 ≤ p.2 ∧ p.2 ≤ 3000000000) : ∀ k, k ≤ ps.length → -(3000000000 * (k : Int)) ≤ toP (ps.take k) kd nm ∧ toP (ps.take k) kd nm ≤ 3000000000 * (k : Int)
  | 0, _ => by simp [toP]
  | k + 1, hk => by
    have ih := toP_bd kd nm hb k (by omega)
    have hg : ps[k]? = some ps[k] := List.getElem?_eq_getElem (by omega)
    have hx := hb _ (List.mem_of_getElem? hg)
    rw [toP_take kd nm hg]
    split <;> omega

set_option maxRecDepth 100000 in
set_option maxHeartbeats 2000000 in
theorem to_any (A : Option Addr) (ps : List Pst) (cap n : Nat) (kd : Int) (nm : ByteArray) (w : World) (B : Nat) (h : Elems tPst w B A ps) (hB : B ≤ w.heap.size) (hn : n = ps.length) (hl : n ≤ 1000) (hb : ∀ p ∈ ps, -3000000000 ≤ p.2 ∧ p.2 ≤ 3000000000) :
    Calls Try.prog 20 #[.agg #[.int .i64 0, .slice A n cap], .int .i64 kd, .string nm] w fun e w' => e = .returned (.int .i64 (toP ps kd nm)) ∧ Below w.heap.size w w' := by
  subst hn
  have HBd := Lib.hid hb
  have hB1 : Below w.heap.size w (w.alloc (.cells #[.int .i64 0, .slice A ps.length cap] 34)) := below_self w _
  have hE := h.keep (hB1.mono hB) (Nat.le_refl _)
  have b0 : Bk (w.alloc (.cells #[.int .i64 0, .slice A ps.length cap] 34)) w.heap.size #[.int .i64 0, .slice A ps.length cap] 34 := Bk.new _ _ _
  have hsz : w.heap.size < (w.alloc (.cells #[.int .i64 0, .slice A ps.length cap] 34)).heap.size := by simp
  have HB1 := Lib.hid hB1
  clear h hb hB1
  go_enter Try.func20, Try.ntmps20
  go_wp2_with fail
  generalize w.alloc (.cells #[.int .i64 0, .slice A ps.length cap] 34) = W at *
  have c0 := b0.cell
  have l0 := b0.lt
  go_loop [7, 8] (fun s i => ∃ k : Nat, k ≤ ps.length ∧ i = .int .i64 k ∧ s = .int .i64 (toP (ps.take k) kd nm)) (fun _ i => ps.length - (intOf i).toNat)
  case atStart => exact ⟨0, by omega, rfl, rfl⟩
  case round =>
    obtain ⟨k, hk, rfl, rfl⟩ := hrel
    obtain ⟨p0, p1⟩ := toP_bd kd nm HBd.out k hk
    by_cases hlt : k < ps.length
    · obtain ⟨b, off, kd1, nm1, a, rfl, hb, Hk, d0, d1, d2, _, _, _⟩ := pick_pst hE hlt
      have bw : b < W.heap.size := by omega
      have hPt := toP_take kd nm Hk.out
      obtain ⟨m1, m2⟩ := HBd.out _ (List.mem_of_getElem? Hk.out)
      have hjl : (k : Int) < (ps.length : Int) := by omega
      have hj60 : (k : Int) ≤ 1000 := by omega
      generalize toP (ps.take k) kd nm = S at *
      by_cases hkd : kd1 = kd ∧ nm1 = nm
      · obtain ⟨rfl, rfl⟩ := hkd
        have Hn : Hid (toP (ps.take (k + 1)) kd1 nm1 = S + a) := Lib.hid (by rw [hPt]; simp)
        clear hPt
        go_wp2_with fail
        go_round
        case rel => exact ⟨k + 1, by omega, by go_num, by rw [Hn.out]⟩
        case measure => simp [intOf]; omega
      · have Hn : Hid (toP (ps.take (k + 1)) kd nm = S) := Lib.hid (by rw [hPt, if_neg (fun h => hkd (by simpa using h))]; omega)
        have hno : kd1 ≠ kd ∨ (kd1 = kd ∧ nm1 ≠ nm) := by
          by_cases e1 : kd1 = kd
          · exact .inr ⟨e1, fun e2 => hkd ⟨e1, e2⟩⟩
          · exact .inl e1
        clear hPt hkd
        rcases hno with e1 | ⟨rfl, e2⟩
        · have t1 : (kd1 == kd) = false := by simpa using e1
          go_wp2_with fail
          go_round
          case rel => exact ⟨k + 1, by omega, by go_num, by rw [Hn.out]⟩
          case measure => simp [intOf]; omega
        · have t1 := bytes_ne e2
          go_wp2_with fail
          go_round
          case rel => exact ⟨k + 1, by omega, by go_num, by rw [Hn.out]⟩
          case measure => simp [intOf]; omega
    · obtain rfl : k = ps.length := by omega
      rw [List.take_length]
      clear hE
      go_wp2_with fail
      go_ret
      exact ⟨rfl, HB1.out⟩

theorem posting_any (kd : Int) (nm : ByteArray) (n : Int) (w : World) : Calls Try.prog 25 #[.int .i64 kd, .string nm, .int .i64 n] w fun e w' => e = .returned (.agg #[.int .i64 kd, .string nm, .int .i64 n]) ∧ Below w.heap.size w w' := by
  go_enter Try.func25, Try.ntmps25
  go_wp2_with fail
  first
    | (go_ret; exact ⟨rfl, by (repeat (first | with_reducible exact Below.refl _ _ | with_reducible assumption | with_reducible refine Below.alloc0 ?_ _ | with_reducible refine Below.ext0 ?_ _ | with_reducible refine Below.drew ?_ | with_reducible refine below_drewN ?_ _ | (with_reducible refine Below.setCell (hp := ?hp) ?_ _; case hp => (first | (simp; done) | (simp; omega)))))⟩)
    | (refine bodyPost_ret (v := .agg #[.int .i64 kd, .string nm, .int .i64 n]) (by simp [results, Try.results25, go_sem]) rfl ⟨rfl, by (repeat (first | with_reducible exact Below.refl _ _ | with_reducible assumption | with_reducible refine Below.alloc0 ?_ _ | with_reducible refine Below.ext0 ?_ _ | with_reducible refine Below.drew ?_ | with_reducible refine below_drewN ?_ _ | (with_reducible refine Below.setCell (hp := ?hp) ?_ _; case hp => (first | (simp; done) | (simp; omega)))))⟩)
end Go.Proofs.Ytggmihnhdojepaa
