/- Layer 13 (decide): the law's head: the chapter's examples. -/
import Derived.Test.YtmklcfmdcfbpeaaDecL
import Derived.Test.YtmklcfmdcfbpeaaDecF
namespace Go.Proofs.Ytmklcfmdcfbpeaa
open Go.RowKit
set_option linter.unusedVariables false
set_option linter.unusedSimpArgs false
attribute [local go_sem] ext_cell ext_frozen lt_ext ext_drew
attribute [local go_sem ↓] Go.wp_at_zero Go.wp_at_succ

def fcOf (a m : Int) : Fc := [0, a, m, 0, 0, 0, 0, 0, 1, 0]
theorem limZ_fits : ∀ r ∈ limZ, fits r.1 ∧ fits r.2 := by unfold limZ fits; decide
theorem zM_fits : ∀ r ∈ zM, fits r.1 ∧ fits r.2 := by unfold zM limZ fits; decide
theorem zA_fits : ∀ r ∈ zA, fits r.1 ∧ fits r.2 := by unfold zA limZ fits; decide
/-- A zone's cells read as the zone. -/
theorem zn_rd (w : World) (B : Nat) {z : Zn} (hz : z.length = 10) (hf : ∀ r ∈ z, fits r.1 ∧ fits r.2) : tZn.rd w B (pairsV z) z := by
  refine ⟨by rw [pairsV_len, hz]; rfl, hz, fun i hi => ?_⟩
  have h := pairsV_at (List.getElem?_eq_getElem hi)
  have hb := hf _ (List.getElem_mem hi)
  refine ⟨[.int .i64 z[i].1], [.int .i64 z[i].2], ?_, ⟨rfl, hb.1⟩, ⟨rfl, hb.2⟩⟩
  have hl : (pairsV z).length = 20 := by rw [pairsV_len, hz]
  apply List.ext_getElem?
  intro j
  show ((List.drop (i * 2) (pairsV z)).take 2)[j]? = _
  rw [List.getElem?_take]
  by_cases hj : j < 2
  · rw [if_pos hj, List.getElem?_drop]
    rcases (show j = 0 ∨ j = 1 by omega) with rfl | rfl
    · exact h.1
    · exact h.2
  · rw [if_neg hj, List.getElem?_eq_none (by simp; omega)]
/-- A slice of one zone. -/
theorem one_zones {w : World} {g B : Nat} {z : Zn} (h : Bk w g (znV z) 44) (hz : z.length = 10) (hf : ∀ r ∈ z, fits r.1 ∧ fits r.2) (hB : g < B) : Elems tZn w B (some ⟨g, 0, none⟩) [z] :=
  Elems.of_block [pairsV z] h hB rfl (fun i hi => by
    obtain rfl : i = 0 := by simpa using hi
    exact zn_rd w B hz hf) (by simp [znV])
theorem rl_rd {w : World} {B g : Nat} {kd : Int} {nm : ByteArray} {z : Zn} {num rn rd sn sd : Int} (hE : Elems tZn w B (some ⟨g, 0, none⟩) [z]) (h1 : fits kd) (h2 : nm.size ≤ maxLen) (h3 : fits num) (h4 : fits rn) (h5 : fits rd) (h6 : fits sn) (h7 : fits sd) :
    tRl.rd w B [.int .i64 kd, .string nm, .slice (some ⟨g, 0, none⟩) 1 1, .int .i64 num, .int .i64 rn, .int .i64 rd, .int .i64 sn, .int .i64 sd] (kd, nm, [z], num, (rn, rd), (sn, sd)) :=
  ⟨[_], _, rfl, ⟨rfl, h1⟩, [_], _, rfl, ⟨rfl, h2⟩, [_], _, rfl, ⟨some ⟨g, 0, none⟩, 1, rfl, by simp, by simp [maxLen], hE⟩, [_], _, rfl, ⟨rfl, h3⟩, [_, _], _, rfl, ⟨[_], _, rfl, ⟨rfl, h4⟩, ⟨rfl, h5⟩⟩, ⟨[_], _, rfl, ⟨rfl, h6⟩, ⟨rfl, h7⟩⟩⟩

def r1C (a : Nat) : List Value := [.int .i64 1, .string ⟨#[97]⟩, .slice (some ⟨a, 0, none⟩) 1 1, .int .i64 4, .int .i64 0, .int .i64 0, .int .i64 0, .int .i64 0]
def exC (a b c d : Nat) : List (List Value) := [r1C a,
  [.int .i64 1, .string ⟨#[109]⟩, .slice (some ⟨b, 0, none⟩) 1 1, .int .i64 6, .int .i64 0, .int .i64 0, .int .i64 0, .int .i64 0],
  [.int .i64 2, .string ⟨#[107]⟩, .slice (some ⟨c, 0, none⟩) 1 1, .int .i64 0, .int .i64 0, .int .i64 0, .int .i64 0, .int .i64 0],
  [.int .i64 3, .string ⟨#[112]⟩, .slice (some ⟨a, 0, none⟩) 1 1, .int .i64 500, .int .i64 0, .int .i64 1, .int .i64 0, .int .i64 1],
  [.int .i64 3, .string ⟨#[113]⟩, .slice (some ⟨d, 0, none⟩) 1 1, .int .i64 300, .int .i64 0, .int .i64 1, .int .i64 0, .int .i64 1]]
theorem ex_rd {w : World} {G a b c d B : Nat} (h : ExLies w G a b c d) (hB : w.heap.size ≤ B) : ∀ i (h1 : i < exRs.length) (h2 : i < (exC a b c d).length), tRl.rd w B (exC a b c d)[i] exRs[i] := by
  have ha := one_zones h.za rfl limZ_fits (Nat.lt_of_lt_of_le h.za.lt hB)
  have hb := one_zones h.zb rfl zM_fits (Nat.lt_of_lt_of_le h.zb.lt hB)
  have hc := one_zones h.zc rfl zA_fits (Nat.lt_of_lt_of_le h.zc.lt hB)
  have hd := one_zones h.zd rfl zM_fits (Nat.lt_of_lt_of_le h.zd.lt hB)
  intro i h1 h2
  match i, h1 with
  | 0, _ => exact rl_rd ha (by unfold fits; omega) (by decide) (by unfold fits; omega) (by unfold fits; omega) (by unfold fits; omega) (by unfold fits; omega) (by unfold fits; omega)
  | 1, _ => exact rl_rd hb (by unfold fits; omega) (by decide) (by unfold fits; omega) (by unfold fits; omega) (by unfold fits; omega) (by unfold fits; omega) (by unfold fits; omega)
  | 2, _ => exact rl_rd hc (by unfold fits; omega) (by decide) (by unfold fits; omega) (by unfold fits; omega) (by unfold fits; omega) (by unfold fits; omega) (by unfold fits; omega)
  | 3, _ => exact rl_rd ha (by unfold fits; omega) (by decide) (by unfold fits; omega) (by unfold fits; omega) (by unfold fits; omega) (by unfold fits; omega) (by unfold fits; omega)
  | 4, _ => exact rl_rd hd (by unfold fits; omega) (by decide) (by unfold fits; omega) (by unfold fits; omega) (by unfold fits; omega) (by unfold fits; omega) (by unfold fits; omega)
theorem ex_elems {w : World} {G a b c d : Nat} (h : ExLies w G a b c d) : Elems tRl w w.heap.size (some ⟨G, 0, none⟩) exRs :=
  Elems.of_block (exC a b c d) h.row h.row.lt rfl (fun i hi => ex_rd h (Nat.le_refl _) i hi hi) rfl
/-- The example and its first rule once more. -/
theorem ex_more {w : World} {G a b c d g : Nat} (h : ExLies w G a b c d) (hg : g < w.heap.size) (hc : ∀ j v, ((exV a b c d).toList ++ r1C a)[j]? = some v → w.cell? ⟨g, j, none⟩ = some v) : Elems tRl w w.heap.size (some ⟨g, 0, none⟩) (exRs ++ [exRs[0]]) :=
  Elems.of_flat (exC a b c d ++ [r1C a]) hg rfl (fun i hi =>
    match i, hi with
    | 0, _ => ex_rd h (Nat.le_refl _) 0 (by decide) (by decide : 0 < 5)
    | 1, _ => ex_rd h (Nat.le_refl _) 1 (by decide) (by decide : 1 < 5)
    | 2, _ => ex_rd h (Nat.le_refl _) 2 (by decide) (by decide : 2 < 5)
    | 3, _ => ex_rd h (Nat.le_refl _) 3 (by decide) (by decide : 3 < 5)
    | 4, _ => ex_rd h (Nat.le_refl _) 4 (by decide) (by decide : 4 < 5)
    | 5, _ => ex_rd h (Nat.le_refl _) 0 (by decide) (by decide : 0 < 5)) (fun k u hu => by rw [Nat.zero_add]; exact hc k u hu)

theorem ex_decide (f : Fc) (C V : Array Value) (hC : dcs (runJ f exRs 5) = C) (hV : fcV f = V) (hf : f.length = 10) {X : World} {G a b c d : Nat} (h : ExLies X G a b c d) :
    Calls Try.prog 16 #[.agg #[.slice (some ⟨G, 0, none⟩) 5 5], .agg V] X fun e w' => e = .returned (.agg C) ∧ Below X.heap.size X w' := by
  have := decide_any (some ⟨G, 0, none⟩) exRs 5 5 f X X.heap.size (ex_elems h) (Nat.le_refl _) rfl (by omega) hf
  rwa [hC, hV] at this
theorem no_decide (f : Fc) (C V : Array Value) (hC : dcs (runJ f [] 0) = C) (hV : fcV f = V) (hf : f.length = 10) (X : World) :
    Calls Try.prog 16 #[.agg #[.slice none 0 0], .agg V] X fun e w' => e = .returned (.agg C) ∧ Below X.heap.size X w' := by
  have := decide_any none [] 0 0 f X X.heap.size Elems.nil (Nat.le_refl _) rfl (by omega) hf
  rwa [hC, hV] at this
theorem ex_ok : validP exRs = true := by kernel_rfl
theorem ex_bad : validP (exRs ++ [exRs[0]]) = false := by kernel_rfl
theorem ex_valid {X : World} {G a b c d : Nat} (h : ExLies X G a b c d) : Calls Try.prog 14 #[.agg #[.slice (some ⟨G, 0, none⟩) 5 5]] X fun e w' => e = .returned (.bool true) ∧ Below X.heap.size X w' := by
  have := valid_any (some ⟨G, 0, none⟩) exRs 5 5 X X.heap.size (ex_elems h) (Nat.le_refl _) rfl (by omega)
  rwa [ex_ok] at this
theorem ex_valid6 {X : World} {G a b c d g cap : Nat} (h : ExLies X G a b c d) (hg : g < X.heap.size) (hc : ∀ j v, ((exV a b c d).toList ++ r1C a)[j]? = some v → X.cell? ⟨g, j, none⟩ = some v) :
    Calls Try.prog 14 #[.agg #[.slice (some ⟨g, 0, none⟩) 6 cap]] X fun e w' => e = .returned (.bool false) ∧ Below X.heap.size X w' := by
  have := valid_any (some ⟨g, 0, none⟩) (exRs ++ [exRs[0]]) cap 6 X X.heap.size (ex_more h hg hc) (Nat.le_refl _) rfl (by omega)
  rwa [ex_bad] at this
theorem ex_holds (f : Fc) (V : Array Value) (r : Bool) (hV : fcV f = V) (hf : f.length = 10) (z : Zn) (hz : z.length = 10) (hzf : ∀ r ∈ z, fits r.1 ∧ fits r.2) (hr : inZ z f = r) (kd : Int) (nm : ByteArray) (num rn rd sn sd : Int) {X : World} {g : Nat} (h : Bk X g (znV z) 44) :
    Calls Try.prog 12 #[.agg #[.int .i64 kd, .string nm, .slice (some ⟨g, 0, none⟩) 1 1, .int .i64 num, .int .i64 rn, .int .i64 rd, .int .i64 sn, .int .i64 sd], .agg V] X fun e w' => e = .returned (.bool r) ∧ Below X.heap.size X w' := by
  have := holds_any kd nm (some ⟨g, 0, none⟩) [z] 1 1 num rn rd sn sd f X X.heap.size (one_zones h hz hzf h.lt) (Nat.le_refl _) rfl (by omega) hf
  rw [hV] at this
  have e : ([z].any fun z => inZ z f) = r := by simp [hr]
  rw [e] at this
  exact this
end Go.Proofs.Ytmklcfmdcfbpeaa
