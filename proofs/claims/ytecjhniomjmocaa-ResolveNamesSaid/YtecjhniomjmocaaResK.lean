/- Layer 12 (resolve): the rule of an item, whatever the item. -/
import Derived.Test.YtecjhniomjmocaaResJ
namespace Go.Proofs.Ytecjhniomjmocaa
open Go.RowKit Go.ChangeAt
set_option linter.unusedVariables false
set_option linter.unusedSimpArgs false
attribute [local go_sem] ext_cell ext_frozen lt_ext ext_drew

theorem rule_any (sb : Nat) (L : Nm) (tw : Bool) (kd : Int) (nm : ByteArray) (AW : Option Addr) (cw : Nat) (n rn rd sn sd att : Int) (w : World) (ws : List (List Ts)) (B : Nat) (h : Elems (tSlice tTs) w B AW ws) (hB : B ≤ w.heap.size) (hS : ScopeAt w sb L) (h1 : L.1.length ≤ 1000000) (h2 : L.2.length ≤ 1000000) (hl : ws.length ≤ 12) (hl8 : ∀ l ∈ ws, l.length ≤ 8)
    (f1 : fits kd) (f2 : fits n) (f3 : fits rn) (f4 : fits rd) (f5 : fits sn) (f6 : fits sd) :
    Calls Try.prog 29 #[.pointer (some ⟨sb, 0, none⟩), .agg #[.int .i64 kd, .string nm, .slice AW ws.length cw, .int .i64 n, .int .i64 rn, .int .i64 rd, .int .i64 sn, .int .i64 sd, .int .i64 att], .bool tw] w (RuleR w L tw (kd, nm, ws, n, (rn, rd), (sn, sd), att)) := by
  cases tw with
  | true =>
    refine (rule_twice sb kd nm AW ws.length cw n rn rd sn sd att w).mono ?_
    rintro e w' ⟨rfl, hb⟩
    exact rule_bad (by simp [faultI]) (by decide) hb
  | false =>
    by_cases h0 : kd < 1
    · refine (rule_kind1 sb kd nm AW ws.length cw n rn rd sn sd att w h0).mono ?_
      rintro e w' ⟨rfl, hb⟩
      exact rule_bad (by simp [faultI, h0]) (by decide) hb
    by_cases h7 : 7 < kd
    · refine (rule_kind2 sb kd nm AW ws.length cw n rn rd sn sd att w h0 h7).mono ?_
      rintro e w' ⟨rfl, hb⟩
      exact rule_bad (by simp [faultI, h7]) (by decide) hb
    cases hq : inRangeP (kd, nm, ws, n, (rn, rd), (sn, sd), att) with
    | false =>
      refine (rule_range sb kd nm AW ws.length cw n rn rd sn sd att w ws h0 h7 f1 f2 f3 f4 f5 f6 hq).mono ?_
      rintro e w' ⟨rfl, hb⟩
      refine rule_bad ?_ (by decide) hb
      unfold faultI
      rw [if_neg (by simp), if_neg (by simp; omega), if_pos hq]
    | true => exact rule_zones sb L kd nm AW cw n rn rd sn sd att w ws B h hB hS h1 h2 hl hl8 h0 h7 f1 f2 f3 f4 f5 f6 hq
end Go.Proofs.Ytecjhniomjmocaa
