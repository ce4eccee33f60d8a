/- Layer 13 (decide): the law's example: the walk. -/
import Derived.Test.YtmklcfmdcfbpeaaDecK
namespace Go.Proofs.Ytmklcfmdcfbpeaa
open Go.RowKit
set_option linter.unusedVariables false
set_option linter.unusedSimpArgs false
attribute [local go_sem] ext_cell ext_frozen lt_ext ext_drew
attribute [local go_sem ↓] Go.wp_at_zero Go.wp_at_succ

def zM : Zn := limZ.set 2 (1, 1)
def zA : Zn := limZ.set 1 (0, 15)
def exRs : List Rl := [(1, ⟨#[97]⟩, [limZ], 4, (0, 0), (0, 0)), (1, ⟨#[109]⟩, [zM], 6, (0, 0), (0, 0)), (2, ⟨#[107]⟩, [zA], 0, (0, 0), (0, 0)), (3, ⟨#[112]⟩, [limZ], 500, (0, 1), (0, 1)), (3, ⟨#[113]⟩, [zM], 300, (0, 1), (0, 1))]
/-- The example's rules, cell by cell: the zones lie in blocks a, b, c, d. -/
def exV (a b c d : Nat) : Array Value := #[
  .int .i64 1, .string ⟨#[97]⟩, .slice (some ⟨a, 0, none⟩) 1 1, .int .i64 4, .int .i64 0, .int .i64 0, .int .i64 0, .int .i64 0,
  .int .i64 1, .string ⟨#[109]⟩, .slice (some ⟨b, 0, none⟩) 1 1, .int .i64 6, .int .i64 0, .int .i64 0, .int .i64 0, .int .i64 0,
  .int .i64 2, .string ⟨#[107]⟩, .slice (some ⟨c, 0, none⟩) 1 1, .int .i64 0, .int .i64 0, .int .i64 0, .int .i64 0, .int .i64 0,
  .int .i64 3, .string ⟨#[112]⟩, .slice (some ⟨a, 0, none⟩) 1 1, .int .i64 500, .int .i64 0, .int .i64 1, .int .i64 0, .int .i64 1,
  .int .i64 3, .string ⟨#[113]⟩, .slice (some ⟨d, 0, none⟩) 1 1, .int .i64 300, .int .i64 0, .int .i64 1, .int .i64 0, .int .i64 1]
/-- The example, in a world. -/
structure ExLies (w : World) (G a b c d : Nat) : Prop where
  row : Bk w G (exV a b c d) 34
  za : Bk w a (znV limZ) 44
  zb : Bk w b (znV zM) 44
  zc : Bk w c (znV zA) 44
  zd : Bk w d (znV zM) 44
theorem ExLies.below {w w' : World} {G a b c d : Nat} (h : ExLies w G a b c d) (hb : Below w.heap.size w w') : ExLies w' G a b c d := ⟨h.row.below hb, h.za.below hb, h.zb.below hb, h.zc.below hb, h.zd.below hb⟩
def ExMade (w : World) (e : Ending) (w' : World) : Prop := ∃ G a b c d, e = .returned (.agg #[.slice (some ⟨G, 0, none⟩) 5 5]) ∧ ExLies w' G a b c d ∧ Below w.heap.size w w'

theorem zone_m (w : World) : Calls Try.prog 39 #[.int .i64 2, .int .i64 1, .int .i64 1] w (ZoneMade w zM) := zone_made 2 1 1 w (by omega)
theorem zone_a (w : World) : Calls Try.prog 39 #[.int .i64 1, .int .i64 0, .int .i64 15] w (ZoneMade w zA) := zone_made 1 0 15 w (by omega)
/-- What stands in a cell. -/
def atCell (W : World) (a : Addr) : Value := (W.cell? a).getD undef
theorem cell_at {W : World} {a : Addr} (h : (W.cell? a).isSome = true) : W.cell? a = some (atCell W a) := by
  obtain ⟨v, hv⟩ := Option.isSome_iff_exists.1 h
  unfold atCell
  rw [hv]; rfl
theorem cell_some {W : World} {a : Addr} {v : Value} (h : W.cell? a = some v) : (W.cell? a).isSome = true := by rw [h]; rfl
theorem zone_lim : (Try.prog.info? 44).map (fun i => (i.size, i.zero.isSome)) = some ((znV limZ).size, true) := by kernel_rfl

set_option maxRecDepth 100000 in
set_option maxHeartbeats 4000000 in
theorem example_made (w : World) : Calls Try.prog 19 #[] w (ExMade w) := by
  go_enter Try.func19, Try.ntmps19
  go_wp2_with fail
  refine (limits_any _).mono ?_
  rintro e w1 ⟨rfl, hb⟩
  have HB := Lib.hid (And.intro (Below.trans0 (below_self w _) hb) ((Bk.new w #[.slice none 0 0] 24).below hb))
  clear hb
  go_upto_region 3 with (refine list_lit1 rfl _ 44 _ rfl (znV limZ) rfl Try.underlying30 zone_lim (by decide) (by decide) zero_zone ?_)
  refine forget (fun W => Below w.heap.size w W ∧ Bk W w.heap.size #[.slice none 0 0] 24 ∧ Bk W w1.heap.size (znV limZ) 44 ∧ Bk W (w1.heap.size + 1) #[.int .i64 0, .int .i64 1] 32 ∧ w.heap.size < w1.heap.size) ⟨Below.alloc0 (Below.alloc0 HB.out.1 _) _, (HB.out.2.alloc _).alloc _, (Bk.new _ _ _).alloc _, bk_new_at _ _ _ _ (by simp), HB.out.2.lt⟩ ?_
  clear HB
  generalize w1.heap.size = g at *
  rintro W ⟨hw, b0, b1, b2, hgg⟩
  have d0 : W.cell? ⟨w.heap.size, 0, none⟩ = some (.slice none 0 0) := b0.cell 0
  have f0 := b0.free 0
  have d1 : W.cell? ⟨g + 1, 0, none⟩ = some (.int .i64 0) := b2.cell 0
  have d2 : W.cell? ⟨g + 1, 1, none⟩ = some (.int .i64 1) := b2.cell 1
  have l0 := b0.lt
  have l2 := b2.lt
  have l1 := b1.lt
  have HS : Hid (∀ W', Below W.heap.size W W' → (W'.cell? ⟨w.heap.size, 0, none⟩ = some (atCell W' ⟨w.heap.size, 0, none⟩) ∧ W'.frozen? ⟨w.heap.size, 0, none⟩ = false ∧ W'.cell? ⟨g + 1, 0, none⟩ = some (.int .i64 0) ∧ W'.cell? ⟨g + 1, 1, none⟩ = some (.int .i64 1))) := Lib.hid fun W' hB =>
    ⟨cell_at (by rw [hB.cell (p := ⟨w.heap.size, 0, none⟩) l0, d0]; rfl), (hB.frozen (p := ⟨w.heap.size, 0, none⟩) l0).trans f0, (hB.cell (p := ⟨g + 1, 0, none⟩) l2).trans d1, (hB.cell (p := ⟨g + 1, 1, none⟩) l2).trans d2⟩
  have hne : w.heap.size ≠ g + 1 := by omega
  have HSC : Hid (∀ (W' : World) (v : Value), (W'.cell? ⟨w.heap.size, 0, none⟩ = some (atCell W' ⟨w.heap.size, 0, none⟩) ∧ W'.frozen? ⟨w.heap.size, 0, none⟩ = false ∧ W'.cell? ⟨g + 1, 0, none⟩ = some (.int .i64 0) ∧ W'.cell? ⟨g + 1, 1, none⟩ = some (.int .i64 1)) → ((W'.setCell ⟨w.heap.size, 0, none⟩ v).cell? ⟨w.heap.size, 0, none⟩ = some (atCell (W'.setCell ⟨w.heap.size, 0, none⟩ v) ⟨w.heap.size, 0, none⟩) ∧ (W'.setCell ⟨w.heap.size, 0, none⟩ v).frozen? ⟨w.heap.size, 0, none⟩ = false ∧ (W'.setCell ⟨w.heap.size, 0, none⟩ v).cell? ⟨g + 1, 0, none⟩ = some (.int .i64 0) ∧ (W'.setCell ⟨w.heap.size, 0, none⟩ v).cell? ⟨g + 1, 1, none⟩ = some (.int .i64 1))) := Lib.hid fun W' v ⟨h1, h2, h3, h4⟩ =>
    ⟨cell_at (by rw [World.cell?_setCell_same' _ _ _ (cell_some h1)]; rfl), by simpa using h2, (World.cell?_setCell_other _ _ _ _ (fun e => hne (congrArg Addr.block e))).trans h3, (World.cell?_setCell_other _ _ _ _ (fun e => hne (congrArg Addr.block e))).trans h4⟩
  have HW := Lib.hid (And.intro hw (And.intro b0 (And.intro b1 l0)))
  clear hw b0 b1 b2 d0 hne
  go_region_held3 (fun W' => (W'.cell? ⟨w.heap.size, 0, none⟩ = some (atCell W' ⟨w.heap.size, 0, none⟩) ∧ W'.frozen? ⟨w.heap.size, 0, none⟩ = false ∧ W'.cell? ⟨g + 1, 0, none⟩ = some (.int .i64 0) ∧ W'.cell? ⟨g + 1, 1, none⟩ = some (.int .i64 1)))
    ((first
      | (apply HSC.out; apply HS.out; (repeat (first | with_reducible exact Below.refl _ _ | with_reducible assumption | with_reducible refine Below.alloc0 ?_ _ | with_reducible refine Below.drew ?_ | with_reducible refine Below.trans0 ?_ (by with_reducible assumption))); all_goals fail)
      | (apply HS.out; (repeat (first | with_reducible exact Below.refl _ _ | with_reducible assumption | with_reducible refine Below.alloc0 ?_ _ | with_reducible refine Below.drew ?_ | with_reducible refine Below.trans0 ?_ (by with_reducible assumption))); all_goals fail)))
    ((go_at_call 39; refine (show Calls Try.prog _ _ _ _ from (by first | with_reducible exact zone_m _ | with_reducible exact zone_a _)).mono ?_; rintro e w' ⟨q, rfl, hq, hk, hbb⟩; have hsz := hbb.size))
  all_goals
    go_wp2_with fail
    have hBel : Below W.heap.size W w' := by (repeat (first | with_reducible exact Below.refl _ _ | with_reducible assumption | with_reducible refine Below.alloc0 ?_ _ | with_reducible refine Below.drew ?_ | with_reducible refine Below.trans0 ?_ (by with_reducible assumption)))
    have hdr : W.drew.heap.size = W.heap.size := rfl
    have hres := fun o : Obj => ((HW.out.2.1.below hBel).alloc o).set_ 0 (.slice (some ⟨w'.heap.size, 0, none⟩) 5 5)
    refine bodyPost_ret (v := .agg #[.slice (some ⟨w'.heap.size, 0, none⟩) 5 5]) (results_cell_row rfl _ _ w.heap.size 24 #[.slice (some ⟨w'.heap.size, 0, none⟩) 5 5] (0, 0) _ rfl (hres _) Try.underlying24 rfl (by kernel_rfl)) rfl ⟨w'.heap.size, g, ?_, ?_, ?_, rfl, ⟨?_, ?_, ?_, ?_, ?_⟩, ?_⟩
    rotate_left 3
    · exact Bk.far (p := ⟨w.heap.size, 0, none⟩) (Bk.new w' (exV g _ _ _) 34) (by show w'.heap.size ≠ w.heap.size; omega) _
    · exact Bk.far (p := ⟨w.heap.size, 0, none⟩) ((HW.out.2.2.1.below hBel).alloc _) (by show g ≠ w.heap.size; omega) _
    iterate 3
      · refine Bk.far (p := ⟨w.heap.size, 0, none⟩) (Bk.alloc ?_ _) (by show (_ : Nat) ≠ w.heap.size; omega) _
        clear hBel
        repeat (first | with_reducible assumption | with_reducible refine Bk.below ?_ (by with_reducible assumption))
    · exact Below.setCell (Below.alloc0 (Below.trans0 HW.out.1 hBel) _) (by show w.heap.size ≤ w.heap.size; omega) _
end Go.Proofs.Ytmklcfmdcfbpeaa
