/- Layer 13 (decide): the law's own zone, facts and example. -/
import Derived.Test.YtmklcfmdcfbpeaaDecI
import Derived.Test.YtmklcfmdcfbpeaaLit
import Derived.Deep.DrawnRows
namespace Go.Proofs.Ytmklcfmdcfbpeaa
open Go.RowKit
set_option linter.unusedVariables false
set_option linter.unusedSimpArgs false
attribute [local go_sem] ext_cell ext_frozen lt_ext ext_drew
attribute [local go_sem ↓] Go.wp_at_zero Go.wp_at_succ

theorem limZ_set (lo hi : Int) : ∀ k, k < 10 → ((znV limZ).setIfInBounds (k * 2) (.int .i64 lo)).setIfInBounds (k * 2 + 1) (.int .i64 hi) = znV (limZ.set k (lo, hi)) := fun k hk =>
  match k, hk with
  | 0, _ | 1, _ | 2, _ | 3, _ | 4, _ | 5, _ | 6, _ | 7, _ | 8, _ | 9, _ => rfl
theorem one_zone : (Try.prog.info? 44).map (fun i => (i.size, i.zero.isSome)) = some ((znV limZ).size, true) := by kernel_rfl
theorem zero_zone : ((Try.prog.info? 44).bind (·.zero)).map (·.cells.size) = some (znV limZ).size := by kernel_rfl

/-- A new slice of one zone. -/
def ZoneMade (w : World) (z : Zn) (e : Ending) (w' : World) : Prop := ∃ g, e = .returned (.slice (some ⟨g, 0, none⟩) 1 1) ∧ w.heap.size ≤ g ∧ Bk w' g (znV z) 44 ∧ Below w.heap.size w w'

set_option maxRecDepth 100000 in
set_option maxHeartbeats 1000000 in
theorem zone_made (k : Nat) (lo hi : Int) (w : World) (hk : k < 10) : Calls Try.prog 39 #[.int .i64 k, .int .i64 lo, .int .i64 hi] w (ZoneMade w (limZ.set k (lo, hi))) := by
  have hset := limZ_set lo hi k hk
  obtain ⟨zs, hzs⟩ : ∃ z, limZ.set k (lo, hi) = z := ⟨_, rfl⟩
  have hzl : (znV zs).size = 20 := by rw [← hzs, ← limZ_set lo hi k hk]; simp; rfl
  rw [hzs] at hset ⊢
  have Hset := Lib.hid hset
  have Hzl := Lib.hid hzl
  clear hset hzs hzl
  have hk10 : (k : Int) < 10 := by omega
  go_enter Try.func39, Try.ntmps39
  go_wp2_with fail
  refine (limits_any _).mono ?_
  rintro e w1 ⟨rfl, hb⟩
  have HB := Lib.hid hb
  clear hb
  go_upto_region 2 with (refine list_store_fresh (o := ⟨none, .store 44 _ _, _, _, _, _⟩) rfl _ _ _ rfl (znV limZ) rfl rfl info_zone rfl (one_pairs limZ) ?_)
  refine forget (fun W => Below w.heap.size w W ∧ Bk W w1.heap.size (znV limZ) 44 ∧ w.heap.size ≤ w1.heap.size) ⟨Below.alloc0 HB.out _, Bk.new _ _ _, HB.out.size⟩ ?_
  rintro W ⟨hw, b1, hge⟩
  have c1 : W.cell? ⟨w1.heap.size, k * 2, none⟩ = some (.int .i64 (atR limZ k).1) := by rw [b1.cell]; exact (znV_at (z := limZ) (show k < 10 by omega)).1
  have c2 : W.cell? ⟨w1.heap.size, k * 2 + 1, none⟩ = some (.int .i64 (atR limZ k).2) := by rw [b1.cell]; exact (znV_at (z := limZ) (show k < 10 by omega)).2
  have f1 := b1.free (k * 2)
  have f2 := b1.free (k * 2 + 1)
  have lg := b1.lt
  have HW := Lib.hid (And.intro hw b1)
  generalize w1.heap.size = g at *
  clear hw b1 HB
  go_upto_region 3 with (fail)
  have hst := (HW.out.2.set_ (k * 2) (.int .i64 lo)).set_ (k * 2 + 1) (.int .i64 hi)
  rw [Hset.out] at hst
  refine forget (fun X => Below w.heap.size w X ∧ Bk X g (znV zs) 44) ⟨by have h0 := HW.out.1; (repeat (first | with_reducible exact Below.refl _ _ | with_reducible assumption | with_reducible refine Below.alloc0 ?_ _ | with_reducible refine Below.ext0 ?_ _ | with_reducible refine Below.drew ?_ | with_reducible refine below_drewN ?_ _ | (with_reducible refine Below.setCell (hp := ?hp) ?_ _; case hp => (first | (simp; done) | (simp; omega))))), hst⟩ ?_
  clear c1 c2 f1 f2 lg HW hst
  rintro X ⟨hw, b1⟩
  have HX := Lib.hid (And.intro hw b1)
  clear hw b1
  go_wp2_with (first
    | (refine list_load_at (o := ⟨some 14, _, _, _, _, _⟩) rfl _ _ rfl g 0 rfl (znV zs) _ (fun j u h => by rw [Nat.zero_add, HX.out.2.cell]; exact h) Try.underlying44 rfl (by rw [Hzl.out]; kernel_rfl) ?_)
    | (refine list_lit1 rfl _ 44 _ rfl (znV zs) rfl Try.underlying30 (by rw [Hzl.out]; kernel_rfl) (by rw [Hzl.out]; decide) (by rw [Hzl.out]; decide) (by rw [Hzl.out]; kernel_rfl) ?_))
  go_ret
  exact ⟨X.heap.size, rfl, HX.out.1.size, Bk.new _ _ _, Below.alloc0 HX.out.1 _⟩

theorem one_fc (f : Fc) : (fcV f).all (·.oneCell') = true := one_ints f
theorem info_fc {f : Fc} (h : f.length = 10) : (Try.prog.info? 26).map (·.size) = some (fcV f).size := by rw [fcV_size h]; kernel_rfl

set_option maxRecDepth 100000 in
set_option maxHeartbeats 1000000 in
theorem facts_fc (a m : Int) (w : World) (z f : Fc) (hz : z = [0, 0, 0, 0, 0, 0, 0, 0, 0, 0]) (hf : f = [0, a, m, 0, 0, 0, 0, 0, 1, 0]) (hl : f.length = 10) (hlz : (fcV z).size = (fcV f).size) : Calls Try.prog 20 #[.int .i64 a, .int .i64 m] w fun e w' => e = .returned (.agg (fcV f)) ∧ Below w.heap.size w w' := by
  have HZ := Lib.hid hz
  have HF := Lib.hid hf
  have HL := Lib.hid hl
  have HLZ := Lib.hid hlz
  clear hz hf hl hlz
  go_enter Try.func20, Try.ntmps20
  go_upto_region 5 with (fail)
  refine forget (fun X => Below w.heap.size w X ∧ Bk X w.heap.size (fcV z) 26 ∧ Bk X (w.heap.size + 1) (fcV f) 26) ⟨by (repeat (first | with_reducible exact Below.refl _ _ | with_reducible assumption | with_reducible refine Below.alloc0 ?_ _ | with_reducible refine Below.ext0 ?_ _ | with_reducible refine Below.drew ?_ | with_reducible refine below_drewN ?_ _ | (with_reducible refine Below.setCell (hp := ?hp) ?_ _; case hp => (first | (simp; done) | (simp; omega))))), ?_, ?_⟩ ?_
  · rw [HZ.out]; exact (Bk.new w _ 26).alloc _
  · rw [HF.out]; exact bk_new_at _ _ _ 26 (by simp)
  rintro X ⟨hw, b0, b1⟩
  have HX := Lib.hid (And.intro hw (And.intro b0 b1))
  clear hw b0 b1
  go_wp2_with (first
    | (refine list_load_at (o := ⟨some 11, _, _, _, _, _⟩) rfl _ _ rfl (w.heap.size + 1) 0 rfl (fcV f) _ (fun j u h => by rw [Nat.zero_add, HX.out.2.2.cell]; exact h) Try.underlying26 rfl (info_fc HL.out) ?_)
    | (refine list_store_bk (o := ⟨none, .store 26 _ _, _, _, _, _⟩) rfl _ _ _ rfl w.heap.size (fcV f) rfl rfl HX.out.2.1 (info_fc HL.out) HLZ.out (one_fc _) ?_; intro X2 hb2 ho2))
  exact bodyPost_ret (v := .agg (fcV f)) (results_cell_row rfl _ _ w.heap.size 26 (fcV f) (0, 0) _ rfl hb2 Try.underlying26 rfl (info_fc HL.out)) rfl ⟨rfl, HX.out.1.trans (ho2.to_below (fun b hb => by omega) (by have := HX.out.1.size; omega))⟩
theorem facts_made (a m : Int) (w : World) : Calls Try.prog 20 #[.int .i64 a, .int .i64 m] w fun e w' => e = .returned (.agg #[.int .i64 0, .int .i64 a, .int .i64 m, .int .i64 0, .int .i64 0, .int .i64 0, .int .i64 0, .int .i64 0, .int .i64 1, .int .i64 0]) ∧ Below w.heap.size w w' :=
  facts_fc a m w _ _ rfl rfl rfl rfl
end Go.Proofs.Ytmklcfmdcfbpeaa
