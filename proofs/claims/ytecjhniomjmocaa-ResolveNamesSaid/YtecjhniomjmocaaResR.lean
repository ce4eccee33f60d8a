/- Layer 12 (resolve): what the laws ask of their arguments, and how they compare. -/
import Derived.Test.YtecjhniomjmocaaResO
import Derived.Test.YtecjhniomjmocaaTail
import Derived.IntWalk
import Derived.Deep.QuietTactic
import Derived.BigQuiet
namespace Go.Proofs.Ytecjhniomjmocaa
open Go.RowKit Go.ChangeAt
set_option linter.unusedVariables false
set_option linter.unusedSimpArgs false
attribute [local go_sem] ext_cell ext_frozen lt_ext ext_drew

def fewI (x : It) : Bool := decide (x.2.2.1.length ≤ 12) && x.2.2.1.all fun l => decide (l.length ≤ 8)
def fewB (ls : List It) : Bool := ls.all fewI && decide (ls.length ≤ 210)
theorem all_take {α : Type} {xs : List α} {k : Nat} {x : α} (p : α → Bool) (h : xs[k]? = some x) : (xs.take (k + 1)).all p = ((xs.take k).all p && p x) := by
  rw [List.take_add_one, h, List.all_append]
  simp
theorem all_bad {α : Type} {xs : List α} {k : Nat} {x : α} {p : α → Bool} (h : xs[k]? = some x) (hp : p x = false) : xs.all p = false := by
  cases hh : xs.all p with
  | false => rfl
  | true => rw [List.all_eq_true] at hh; rw [hh x (List.mem_of_getElem? h)] at hp; cases hp
set_option maxRecDepth 100000 in
set_option maxHeartbeats 1000000 in
theorem few_any (A : Option Addr) (ls : List It) (cap : Nat) (w : World) (B : Nat) (h : Elems tIt w B A ls) (hB : B ≤ w.heap.size) (hn : ls.length ≤ 9223372036854775807) :
    Calls Try.prog 10 #[.agg #[.slice A ls.length cap]] w fun e w' => e = .returned (.bool (fewB ls)) ∧ Below w.heap.size w w' := by
  have HH := Lib.hid (h.keep ((below_self w (.cells #[.slice A ls.length cap] 24)).mono hB) (Nat.le_refl _))
  clear h
  go_enter Try.func10, Try.ntmps10
  go_wp2_with fail
  go_loop [3, 4] (fun i _ => ∃ k : Nat, k ≤ ls.length ∧ i = .int .i64 k ∧ (ls.take k).all fewI = true) (fun i _ => ls.length - (intOf i).toNat)
  case atStart => exact ⟨0, by omega, rfl, rfl⟩
  case round =>
    obtain ⟨k, hk, rfl, hall⟩ := hrel
    by_cases hlt : k < ls.length
    · obtain ⟨b, off, kd, nm, AW, ws, cw, n, rn, rd, sn, sd, att, rfl, hb, Hk, d0, d1, d2, d3, d4, d5, d6, d7, d8, g1, g2, g3, f1, f2, f3, f4, f5, f6, f7, g4⟩ := pick_it HH.out hlt
      have hkl : (k : Int) < (ls.length : Int) := by omega
      have bw : b < w.heap.size := by omega
      have hat := all_take fewI Hk.out
      rw [hall, Bool.true_and] at hat
      have Hat := Lib.hid hat
      clear hat hall g4 d0 d1 d3 d4 d5 d6 d7 d8
      by_cases h12 : ws.length ≤ 12
      · have h12' : ¬ 12 < (ws.length : Int) := by omega
        go_wp2_with fail
        go_loop [4] (fun i => ∃ j : Nat, j ≤ ws.length ∧ i = .int .i64 j ∧ (ws.take j).all (fun l => decide (l.length ≤ 8)) = true) (fun i => ws.length - (intOf i).toNat)
        case atStart => exact ⟨0, by omega, rfl, rfl⟩
        case round =>
          obtain ⟨j, hj, rfl, hall2⟩ := hrel
          by_cases hlj : j < ws.length
          · obtain ⟨b2, off2, A1, l, c1, rfl, hb2, Hj, g0, gl, HE⟩ := pick_and g3.out hlj
            have hjl : (j : Int) < (ws.length : Int) := by omega
            have bw2 : b2 < w.heap.size := by omega
            have hat2 := all_take (fun l => decide (l.length ≤ 8)) Hj.out
            rw [hall2, Bool.true_and] at hat2
            by_cases h8 : l.length ≤ 8
            · have h8' : ¬ 8 < (l.length : Int) := by omega
              have H2 := Lib.hid (show (ws.take (j + 1)).all (fun l => decide (l.length ≤ 8)) = true by rw [hat2]; simpa using h8)
              clear hat2 hall2
              go_wp2_with fail
              go_round
              case rel => exact ⟨j + 1, by omega, by go_num, H2.out⟩
              case measure => simp [intOf]; omega
            · have h8' : 8 < (l.length : Int) := by omega
              have H2 := Lib.hid (show fewB ls = false by
                have : fewI (kd, nm, ws, n, (rn, rd), (sn, sd), att) = false := by
                  unfold fewI
                  rw [all_bad Hj.out (by simpa using h8), Bool.and_false]
                unfold fewB
                rw [all_bad Hk.out this, Bool.false_and])
              clear hat2 hall2
              go_wp2_with fail
              go_ret
              exact ⟨ret_bool H2.out.symm, below_self _ _⟩
          · obtain rfl : j = ws.length := by omega
            rw [List.take_length] at hall2
            have H2 := Lib.hid (show (ls.take (k + 1)).all fewI = true by rw [Hat.out]; unfold fewI; rw [hall2]; simpa using h12)
            clear hall2
            go_wp2_with fail
            go_round
            case rel => exact ⟨k + 1, by omega, by go_num, H2.out⟩
            case measure => simp [intOf]; omega
      · have h12' : 12 < (ws.length : Int) := by omega
        have H2 := Lib.hid (show fewB ls = false by
          have : fewI (kd, nm, ws, n, (rn, rd), (sn, sd), att) = false := by
            unfold fewI
            rw [decide_eq_false (by simpa using h12), Bool.false_and]
          unfold fewB
          rw [all_bad Hk.out this, Bool.false_and])
        go_wp2_with fail
        go_ret
        exact ⟨ret_bool H2.out.symm, below_self _ _⟩
    · obtain rfl : k = ls.length := by omega
      rw [List.take_length] at hall
      have H2 := Lib.hid (show fewB ls = decide (ls.length ≤ 210) by unfold fewB; rw [hall, Bool.true_and])
      clear hall
      go_wp2_with fail
      go_ret
      refine ⟨?_, below_self _ _⟩
      rw [H2.out]
      refine ret_bool ?_
      by_cases h9 : ls.length ≤ 210
      · rw [decide_eq_true h9, decide_eq_true (by omega)]
      · rw [decide_eq_false h9, decide_eq_false (by omega)]
def smallL (l : Le) : Bool := decide (l.2.2.1.length + l.2.2.2.1.length ≤ 50)
def smallB (ls : List Le) : Bool := ls.all smallL && decide (ls.length ≤ 10)
set_option maxRecDepth 100000 in
set_option maxHeartbeats 1000000 in
theorem small_any (hn : ByteArray) (x y : Int) (A : Option Addr) (ls : List Le) (cap : Nat) (w : World) (B : Nat) (h : Elems tLe w B A ls) (hB : B ≤ w.heap.size) (hl : ls.length ≤ 9223372036854775807) :
    Calls Try.prog 11 #[.agg #[.string hn, .int .i64 x, .int .i64 y, .slice A ls.length cap]] w fun e w' => e = .returned (.bool (smallB ls)) ∧ Below w.heap.size w w' := by
  have HH := Lib.hid h
  clear h
  go_enter Try.func11, Try.ntmps11
  go_wp2_with fail
  go_loopw [3] (fun i wr => ∃ (k q : Nat), k ≤ ls.length ∧ i = .int .i64 k ∧ (ls.take k).all smallL = true ∧ wr = (w.alloc (.cells #[.string hn, .int .i64 x, .int .i64 y, .slice A ls.length cap] 29)).drewN q) (fun i _ => ls.length - (intOf i).toNat)
  case atStart => exact ⟨0, 0, by omega, rfl, rfl, rfl⟩
  case round =>
    obtain ⟨k, q, hk, rfl, hall, rfl⟩ := hrel
    by_cases hlt : k < ls.length
    · obtain ⟨b, off, nm, ht, AB, bs, cb, AA, ars, ca, h1, h2, h3, att, rfl, hb, Hk, d0, d1, d2, d3, d4, d5, d6, d7, g1, g2, g3, g4, g5⟩ := pick_le HH.out hlt
      have hkl : (k : Int) < (ls.length : Int) := by omega
      have bw : b < w.heap.size := by omega
      have hat := all_take smallL Hk.out
      rw [hall, Bool.true_and] at hat
      have q1 : (bs.length : Int) ≤ 1125899906842624 := by omega
      have q2 : (ars.length : Int) ≤ 1125899906842624 := by omega
      have q3 : (0 : Int) ≤ (bs.length : Int) := by omega
      have q4 : (0 : Int) ≤ (ars.length : Int) := by omega
      have hsum : IntKind.i64.wrap ((bs.length : Int) + (ars.length : Int)) = (bs.length : Int) + (ars.length : Int) := IntWalk.i64_in _ (by omega)
      by_cases h50 : bs.length + ars.length ≤ 50
      · have h50' : ¬ 50 < (bs.length : Int) + (ars.length : Int) := by omega
        have H2 := Lib.hid (show (ls.take (k + 1)).all smallL = true by rw [hat]; simpa [smallL] using h50)
        clear hat hall g4 g5 d0 d1 d4 d5 d6 d7
        go_upto_region 4 with (fail)
        go_quiet (fail)
        go_wp2_with fail
        go_roundw
        case rel => exact ⟨k + 1, _, by omega, by go_num, H2.out, rfl⟩
        case measure => simp [intOf]; omega
      · have h50' : 50 < (bs.length : Int) + (ars.length : Int) := by omega
        have H2 := Lib.hid (show smallB ls = false by
          have : smallL (nm, ht, bs, ars, h1, h2, h3, att) = false := by simpa [smallL] using (show 50 < bs.length + ars.length by omega)
          unfold smallB
          rw [all_bad Hk.out this, Bool.false_and])
        clear hat hall g4 g5 d0 d1 d4 d5 d6 d7
        go_upto_region 4 with (fail)
        go_quiet (fail)
        go_wp2_with fail
        go_ret
        exact ⟨ret_bool H2.out.symm, by (repeat (first | with_reducible exact Below.refl _ _ | with_reducible assumption | with_reducible refine Below.alloc0 ?_ _ | with_reducible refine Below.ext0 ?_ _ | with_reducible refine Below.drew ?_ | with_reducible refine below_drewN ?_ _ | (with_reducible refine Below.setCell (hp := ?hp) ?_ _; case hp => (first | (simp; done) | (simp; omega)))))⟩
    · obtain rfl : k = ls.length := by omega
      rw [List.take_length] at hall
      have H2 := Lib.hid (show smallB ls = decide (ls.length ≤ 10) by unfold smallB; rw [hall, Bool.true_and])
      clear hall
      go_wp2_with fail
      go_ret
      refine ⟨?_, below_drewN (below_self _ _) _⟩
      rw [H2.out]
      refine ret_bool ?_
      by_cases h9 : ls.length ≤ 10
      · rw [decide_eq_true h9, decide_eq_true (by omega)]
      · rw [decide_eq_false h9, decide_eq_false (by omega)]
theorem pick_fa {w : World} {B : Nat} {A : Option Addr} {fs : List Fa} (h : Elems tFa w B A fs) {k : Nat} (hk : k < fs.length) :
    ∃ b off x y z, A = some ⟨b, off, none⟩ ∧ b < B ∧ Hid (fs[k]? = some (x, y, z)) ∧ w.cell? ⟨b, off + k * 3, none⟩ = some (.int .i64 x) ∧ w.cell? ⟨b, off + k * 3 + 1, none⟩ = some (.int .i64 y) ∧ w.cell? ⟨b, off + k * 3 + 2, none⟩ = some (.int .i64 z) ∧ fits x ∧ fits y ∧ fits z := by
  obtain ⟨b, off, ⟨x, y, z⟩, cs, hA, hb, _, hx, _, ⟨c1, r1, rfl, ⟨rfl, g1⟩, ⟨c2, r2, rfl, ⟨rfl, g2⟩, ⟨rfl, g3⟩⟩⟩, hc⟩ := h.pick hk
  exact ⟨b, off, x, y, z, hA, hb, hx, hc 0 _ rfl, hc 1 _ rfl, hc 2 _ rfl, g1, g2, g3⟩
def sameL {α : Type} [DecidableEq α] (a b : List α) : Bool := decide (a = b)
theorem sameL_ne {α : Type} [DecidableEq α] {a b : List α} {k : Nat} {x y : α} (ha : a[k]? = some x) (hb : b[k]? = some y) (h : x ≠ y) : sameL a b = false := by
  unfold sameL
  refine decide_eq_false fun e => h ?_
  subst e
  exact Option.some.inj (ha.symm.trans hb)
theorem take_eq {α : Type} {a b : List α} {k : Nat} {x : α} (h : a.take k = b.take k) (ha : a[k]? = some x) (hb : b[k]? = some x) : a.take (k + 1) = b.take (k + 1) := by
  rw [List.take_add_one, List.take_add_one, h, ha, hb]
set_option maxRecDepth 100000 in
set_option maxHeartbeats 1000000 in
theorem faults_any (A1 : Option Addr) (fs : List Fa) (n1 c1 : Nat) (A2 : Option Addr) (gs : List Fa) (n2 c2 : Nat) (w : World) (B : Nat) (h : Elems tFa w B A1 fs) (h2 : Elems tFa w B A2 gs) (hB : B ≤ w.heap.size) (hn1 : fs.length = n1) (hn2 : gs.length = n2) (hl : fs.length ≤ 9223372036854775807) (hl2 : gs.length ≤ 9223372036854775807) :
    Calls Try.prog 17 #[.slice A1 n1 c1, .slice A2 n2 c2] w fun e w' => e = .returned (.bool (sameL fs gs)) ∧ Below w.heap.size w w' := by
  subst hn1
  subst hn2
  have HH := Lib.hid (And.intro h h2)
  clear h h2
  by_cases hlen : fs.length = gs.length
  · have Hlen := Lib.hid hlen
    have hle : fs.length ≤ gs.length := by omega
    have hle2 : gs.length ≤ fs.length := by omega
    clear hlen
    go_enter Try.func17, Try.ntmps17
    have hq1 : ((fs.length : Int) == (gs.length : Int)) = true := by simpa using (show (fs.length : Int) = gs.length by omega)
    have hq2 : ((fs.length : Int) != (gs.length : Int)) = false := by simpa using (show (fs.length : Int) = gs.length by omega)
    go_wp2_with fail
    clear hq1 hq2
    go_loopw [5] (fun i wr => ∃ (k q : Nat), k ≤ fs.length ∧ i = .int .i64 k ∧ fs.take k = gs.take k ∧ wr = w.drewN q) (fun i _ => fs.length - (intOf i).toNat)
    case atStart => exact ⟨0, 0, by omega, rfl, rfl, rfl⟩
    case round =>
      obtain ⟨k, q, hk, rfl, heq, rfl⟩ := hrel
      by_cases hlt : k < fs.length
      · obtain ⟨b, off, x, y, z, rfl, hb, Hk, d0, d1, d2, f1, f2, f3⟩ := pick_fa HH.out.1 hlt
        obtain ⟨b', off', x', y', z', rfl, hb', Hk', d0', d1', d2', f1', f2', f3'⟩ := pick_fa HH.out.2 (show k < gs.length by omega)
        have hkl : (k : Int) < (fs.length : Int) := by omega
        have hkl2 : (k : Int) < (gs.length : Int) := by omega
        have bw : b < w.heap.size := by omega
        have bw' : b' < w.heap.size := by omega
        by_cases he : (x, y, z) = (x', y', z')
        · cases he
          have H2 := Lib.hid (take_eq heq Hk.out Hk'.out)
          clear heq
          go_upto_region 6 with (fail)
          go_quiet (fail)
          go_wp2_with fail
          go_roundw
          case rel => exact ⟨k + 1, _, by omega, by go_num, H2.out, rfl⟩
          case measure => simp [intOf]; omega
        · have H2 := Lib.hid (sameL_ne Hk.out Hk'.out he)
          clear heq
          go_upto_region 6 with (fail)
          by_cases e1 : x = x'
          · subst e1
            by_cases e2 : y = y'
            · subst e2
              have e3 : ¬ z = z' := fun e3 => he (by rw [e3])
              clear he
              go_quiet (fail)
              go_wp2_with fail
              go_ret
              exact ⟨ret_bool H2.out.symm, by (repeat (first | with_reducible exact Below.refl _ _ | with_reducible assumption | with_reducible refine Below.alloc0 ?_ _ | with_reducible refine Below.ext0 ?_ _ | with_reducible refine Below.drew ?_ | with_reducible refine below_drewN ?_ _ | (with_reducible refine Below.setCell (hp := ?hp) ?_ _; case hp => (first | (simp; done) | (simp; omega)))))⟩
            · clear he
              go_quiet (fail)
              go_wp2_with fail
              go_ret
              exact ⟨ret_bool H2.out.symm, by (repeat (first | with_reducible exact Below.refl _ _ | with_reducible assumption | with_reducible refine Below.alloc0 ?_ _ | with_reducible refine Below.ext0 ?_ _ | with_reducible refine Below.drew ?_ | with_reducible refine below_drewN ?_ _ | (with_reducible refine Below.setCell (hp := ?hp) ?_ _; case hp => (first | (simp; done) | (simp; omega)))))⟩
          · clear he
            go_quiet (fail)
            go_wp2_with fail
            go_ret
            exact ⟨ret_bool H2.out.symm, by (repeat (first | with_reducible exact Below.refl _ _ | with_reducible assumption | with_reducible refine Below.alloc0 ?_ _ | with_reducible refine Below.ext0 ?_ _ | with_reducible refine Below.drew ?_ | with_reducible refine below_drewN ?_ _ | (with_reducible refine Below.setCell (hp := ?hp) ?_ _; case hp => (first | (simp; done) | (simp; omega)))))⟩
      · obtain rfl : k = fs.length := by omega
        have H2 := Lib.hid (show sameL fs gs = true by
          unfold sameL
          rw [List.take_length, Hlen.out, List.take_length] at heq
          exact decide_eq_true heq)
        clear heq
        go_wp2_with fail
        go_ret
        exact ⟨ret_bool H2.out.symm, by (repeat (first | with_reducible exact Below.refl _ _ | with_reducible assumption | with_reducible refine Below.alloc0 ?_ _ | with_reducible refine Below.ext0 ?_ _ | with_reducible refine Below.drew ?_ | with_reducible refine below_drewN ?_ _ | (with_reducible refine Below.setCell (hp := ?hp) ?_ _; case hp => (first | (simp; done) | (simp; omega)))))⟩
  · have hq1 : ((fs.length : Int) == (gs.length : Int)) = false := by simpa using (show ¬ (fs.length : Int) = gs.length by omega)
    have hq2 : ((fs.length : Int) != (gs.length : Int)) = true := by simpa using (show ¬ (fs.length : Int) = gs.length by omega)
    have H2 := Lib.hid (show sameL fs gs = false from decide_eq_false fun e => hlen (by rw [e]))
    clear hlen
    go_enter Try.func17, Try.ntmps17
    go_wp2_with fail
    go_ret
    exact ⟨ret_bool H2.out.symm, by (repeat (first | with_reducible exact Below.refl _ _ | with_reducible assumption | with_reducible refine Below.alloc0 ?_ _ | with_reducible refine Below.ext0 ?_ _ | with_reducible refine Below.drew ?_ | with_reducible refine below_drewN ?_ _ | (with_reducible refine Below.setCell (hp := ?hp) ?_ _; case hp => (first | (simp; done) | (simp; omega)))))⟩
end Go.Proofs.Ytecjhniomjmocaa
