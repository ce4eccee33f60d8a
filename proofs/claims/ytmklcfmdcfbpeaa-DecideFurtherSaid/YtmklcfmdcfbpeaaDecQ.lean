/- Layer 13 (decide): rules appended to a policy of the law's own; decisions compared but for By. -/
import Derived.Test.YtmklcfmdcfbpeaaDecO
import Derived.Test.YtmklcfmdcfbpeaaRow
import Derived.Test.YtmklcfmdcfbpeaaPlanI
namespace Go.Proofs.Ytmklcfmdcfbpeaa
open Go.RowKit
set_option linter.unusedVariables false
set_option linter.unusedSimpArgs false
attribute [local go_sem] ext_cell ext_frozen lt_ext ext_drew

theorem pick_rule3 {w : World} {B : Nat} {A : Option Addr} {rs : List Rl} (h : Elems tRl w B A rs) {k : Nat} (hk : k < rs.length) :
    ∃ b off kd nm AZ zs zc num rn rd sn sd, A = some ⟨b, off, none⟩ ∧ b < B ∧ Hid (rs[k]? = some (kd, nm, zs, num, (rn, rd), (sn, sd))) ∧
      w.cell? ⟨b, off + k * 8, none⟩ = some (.int .i64 kd) ∧ w.cell? ⟨b, off + k * 8 + 1, none⟩ = some (.string nm) ∧ w.cell? ⟨b, off + k * 8 + 2, none⟩ = some (.slice AZ zs.length zc) ∧ w.cell? ⟨b, off + k * 8 + 3, none⟩ = some (.int .i64 num) ∧
      w.cell? ⟨b, off + k * 8 + 4, none⟩ = some (.int .i64 rn) ∧ w.cell? ⟨b, off + k * 8 + 5, none⟩ = some (.int .i64 rd) ∧ w.cell? ⟨b, off + k * 8 + 6, none⟩ = some (.int .i64 sn) ∧ w.cell? ⟨b, off + k * 8 + 7, none⟩ = some (.int .i64 sd) ∧
      zs.length ≤ 9223372036854775807 ∧ Hid (Elems tZn w B AZ zs) ∧ Hid (tRl.rd w B [.int .i64 kd, .string nm, .slice AZ zs.length zc, .int .i64 num, .int .i64 rn, .int .i64 rd, .int .i64 sn, .int .i64 sd] (kd, nm, zs, num, (rn, rd), (sn, sd))) := by
  obtain ⟨b, off, ⟨kd, nm, zs, num, ⟨rn, rd⟩, ⟨sn, sd⟩⟩, cs, hA, hb, _, hx, _, hr, hc⟩ := h.pick hk
  have hr' := hr
  obtain ⟨c1, r1, rfl, ⟨rfl, h1⟩, ⟨c2, r2, rfl, ⟨rfl, h2⟩, ⟨c3, r3, rfl, ⟨AZ, zc, rfl, h3, h4, h5⟩, ⟨c4, r4, rfl, ⟨rfl, h6⟩, ⟨c5, r5, rfl, ⟨a1, b1, rfl, ⟨rfl, _⟩, ⟨rfl, _⟩⟩, ⟨a2, b2, rfl, ⟨rfl, _⟩, ⟨rfl, _⟩⟩⟩⟩⟩⟩⟩ := hr
  exact ⟨b, off, kd, nm, AZ, zs, zc, num, rn, rd, sn, sd, hA, hb, hx, hc 0 _ rfl, hc 1 _ rfl, hc 2 _ rfl, hc 3 _ rfl, hc 4 _ rfl, hc 5 _ rfl, hc 6 _ rfl, hc 7 _ rfl, by have h3' : zs.length ≤ zc := h3; unfold maxLen at h4; omega, h5, hr'⟩
theorem one_rl : ∀ (w : World) (B : Nat) (cs : List Value) (x : Rl), tRl.rd w B cs x → ∀ u ∈ cs, u.oneCell' = true := fun w B cs x hr u hu => by
  obtain ⟨kd, nm, zs, num, ⟨rn, rd⟩, ⟨sn, sd⟩⟩ := x
  obtain ⟨c1, r1, rfl, ⟨rfl, h1⟩, ⟨c2, r2, rfl, ⟨rfl, h2⟩, ⟨c3, r3, rfl, ⟨AZ, zc, rfl, h3, h4, h5⟩, ⟨c4, r4, rfl, ⟨rfl, h6⟩, ⟨c5, r5, rfl, ⟨a1, b1, rfl, ⟨rfl, _⟩, ⟨rfl, _⟩⟩, ⟨a2, b2, rfl, ⟨rfl, _⟩, ⟨rfl, _⟩⟩⟩⟩⟩⟩⟩ := hr
  simp only [List.cons_append, List.nil_append, List.mem_cons, List.not_mem_nil, or_false] at hu
  rcases hu with rfl | rfl | rfl | rfl | rfl | rfl | rfl | rfl <;> rfl

/-- A decision told by the rules of each kind that hold, By left open. -/
theorem decG_lit (l : Int → List Rl) : ∃ ok tg si lim price fn fd tn td cn cd sn sd rn rd, ∀ y, decG l y = #[.bool ok, .bool tg, .bool si, .int .i64 lim, .int .i64 price, .int .i64 fn, .int .i64 fd, .int .i64 tn, .int .i64 td, .int .i64 cn, .int .i64 cd, .int .i64 sn, .int .i64 sd, .int .i64 rn, .int .i64 rd, .int .i64 y] := ⟨_, _, _, _, _, _, _, _, _, _, _, _, _, _, _, fun _ => rfl⟩

set_option maxHeartbeats 1000000 in
theorem like_yes (ok tg si : Bool) (lim price fn fd tn td cn cd sn sd rn rd y1 y2 : Int) (w : World) :
    Calls Try.prog 18 #[.agg #[.bool ok, .bool tg, .bool si, .int .i64 lim, .int .i64 price, .int .i64 fn, .int .i64 fd, .int .i64 tn, .int .i64 td, .int .i64 cn, .int .i64 cd, .int .i64 sn, .int .i64 sd, .int .i64 rn, .int .i64 rd, .int .i64 y1], .agg #[.bool ok, .bool tg, .bool si, .int .i64 lim, .int .i64 price, .int .i64 fn, .int .i64 fd, .int .i64 tn, .int .i64 td, .int .i64 cn, .int .i64 cd, .int .i64 sn, .int .i64 sd, .int .i64 rn, .int .i64 rd, .int .i64 y2]] w fun e w' => e = .returned (.bool true) ∧ Below w.heap.size w w' := by
  go_enter Try.func18, Try.ntmps18
  go_wp2_with fail
  go_ret
  exact ⟨rfl, by (repeat (first | with_reducible exact Below.refl _ _ | with_reducible assumption | with_reducible refine Below.alloc0 ?_ _ | with_reducible refine Below.ext0 ?_ _ | with_reducible refine Below.drew ?_ | with_reducible refine below_drewN ?_ _ | (with_reducible refine Below.setCell (hp := ?hp) ?_ _; case hp => (first | (simp; done) | (simp; omega)))))⟩
end Go.Proofs.Ytmklcfmdcfbpeaa
