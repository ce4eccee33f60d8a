/- Layer 3 (sign): the digits of a message. -/
import Derived.Test.YtojkpoikamcgkaaDoorOwnE
namespace Go.Proofs.YtojkpoikamcgkaaDoor
open Go.RowKit
set_option linter.unusedVariables false
set_option linter.unusedSimpArgs false
attribute [local go_sem] ext_cell ext_frozen lt_ext ext_drew

def digAt (n i : Nat) : Nat := n / 2 ^ (60 - 4 * i) % 16
theorem digAt_lt (n i : Nat) : digAt n i < 16 := Nat.mod_lt _ (by decide)
def restTo (n : Nat) : Nat → Nat
  | 0 => 0
  | k + 1 => restTo n k + (15 - digAt n k)
theorem restTo_le (n k : Nat) : restTo n k ≤ 15 * k := by
  induction k with
  | zero => simp [restTo]
  | succ k ih => simp only [restTo]; omega
/-- The digits of a message. -/
def digitsL (m : List UInt8) : List Nat := (List.range 16).map (digAt (sumN m)) ++ [restTo (sumN m) 16 / 16, restTo (sumN m) 16 % 16]
def digTo (n k : Nat) : List Nat := (List.range 18).map fun i => if i < k then digAt n i else 0
def digV (l : List Nat) : Array Value := (l.map fun (d : Nat) => Value.int .i64 (d : Int)).toArray
theorem digV_size (l : List Nat) : (digV l).size = l.length := by simp [digV]
theorem digTo_len (n k : Nat) : (digTo n k).length = 18 := by simp [digTo]
theorem digTo_at {n k i : Nat} (hi : i < 18) : (digTo n k)[i]? = some (if i < k then digAt n i else 0) := by
  unfold digTo
  rw [List.getElem?_map, List.getElem?_range hi]
  rfl
theorem digV_zero (n : Nat) : digV (digTo n 0) = #[.int .i64 0, .int .i64 0, .int .i64 0, .int .i64 0, .int .i64 0, .int .i64 0, .int .i64 0, .int .i64 0, .int .i64 0, .int .i64 0, .int .i64 0, .int .i64 0, .int .i64 0, .int .i64 0, .int .i64 0, .int .i64 0, .int .i64 0, .int .i64 0] := rfl
theorem digV_at {l : List Nat} {i d : Nat} (h : l[i]? = some d) : (digV l)[i]? = some (.int .i64 d) := by simp [digV, h]
theorem digV_set (l : List Nat) (i d : Nat) : (digV l).setIfInBounds i (.int .i64 d) = digV (l.set i d) := by
  unfold digV
  rw [List.setIfInBounds_toArray, List.map_set]
theorem digTo_step {n k : Nat} (hk : k < 18) : (digTo n k).set k (digAt n k) = digTo n (k + 1) := by
  apply List.ext_getElem?
  intro i
  by_cases hi : i < 18
  · rw [List.getElem?_set, digTo_at hi, digTo_at hi]
    by_cases e : k = i
    · subst e
      rw [if_pos rfl, digTo_len, if_pos hk, if_pos (by omega)]
    · rw [if_neg e]
      by_cases hl : i < k
      · rw [if_pos hl, if_pos (by omega)]
      · rw [if_neg hl, if_neg (by omega)]
  · rw [List.getElem?_eq_none (by rw [List.length_set, digTo_len]; omega), List.getElem?_eq_none (by rw [digTo_len]; omega)]
theorem digTo_end (n : Nat) : ((digTo n 16).set 16 (restTo n 16 / 16)).set 17 (restTo n 16 % 16) = (List.range 16).map (digAt n) ++ [restTo n 16 / 16, restTo n 16 % 16] := by
  rfl
theorem digitsL_len (m : List UInt8) : (digitsL m).length = 18 := by simp [digitsL]
theorem digitsL_le {m : List UInt8} : ∀ d ∈ digitsL m, d ≤ 15 := by
  intro d hd
  unfold digitsL at hd
  rcases List.mem_append.1 hd with h | h
  · obtain ⟨i, _, rfl⟩ := List.mem_map.1 h
    have := digAt_lt (sumN m) i
    omega
  · have := restTo_le (sumN m) 16
    simp only [List.mem_cons, List.not_mem_nil, or_false] at h
    rcases h with rfl | rfl <;> omega
theorem hexC_index (d : Nat) (hd : d < 16) : Lib.indexByte hexV (hexC d) = (d : Int) := by
  have : ∀ k : Fin 16, Lib.indexByte hexV (hexC k.1) = (k.1 : Int) := by decide
  exact this ⟨d, hd⟩
theorem hexC_u8 (d : Nat) : ((hexC d).toNat : Int).toNat.toUInt8 = hexC d := by
  rw [Int.toNat_natCast]
  exact UInt8.ofNat_toNat
theorem index_any (d : Nat) (hd : d < 16) (w : World) : Calls Tryd.prog 40 #[.string ⟨#[48, 49, 50, 51, 52, 53, 54, 55, 56, 57, 97, 98, 99, 100, 101, 102]⟩, .int .u8 ((hexC d).toNat : Int)] w fun e w' => e = .returned (.int .i64 d) ∧ w' = w := by
  have h := Tryd.strings_IndexByte ⟨#[48, 49, 50, 51, 52, 53, 54, 55, 56, 57, 97, 98, 99, 100, 101, 102]⟩ ((hexC d).toNat : Int) w
  rw [hexC_u8, show (⟨#[48, 49, 50, 51, 52, 53, 54, 55, 56, 57, 97, 98, 99, 100, 101, 102]⟩ : ByteArray).data.toList = hexV from rfl, hexC_index d hd] at h
  exact h
theorem results_cell {P : Program} {fn : Func} {a : Tmp} {t : TypeId} {tmps : Array Value} {p : Addr} {v : Value} {w : World} (h : fn.results = #[.cell a t]) (hb : tmps.getD a undef = .pointer (some p)) (hl : (loadVar t p).run P w = .ok v w) :
    (results fn tmps).run P w = .ok v w := by
  unfold results
  rw [h]
  have e : (asAddr (tmps.getD a undef)).run P w = .ok p w := by rw [hb]; rfl
  have e' : (asAddr (tmps[a]?.getD undef)).run P w = .ok p w := by simpa using e
  simp [Sem.run_bind, e', hl]
set_option maxRecDepth 100000 in
set_option maxHeartbeats 2000000 in
theorem digits_any (m : ByteArray) (w : World) (hs : m.size ≤ 9223372036854775807) (ht : HexTab w) :
    Calls Tryd.prog 18 #[.string m] w fun e w' => e = .returned (.agg (digV (digitsL m.data.toList))) ∧ Below w.heap.size w w' := by
  have HT := Lib.hid ht
  clear ht
  go_enter Tryd.func18, Tryd.ntmps18
  have hsz : (⟨(sumL m.data.toList).toArray⟩ : ByteArray).size = 16 := by rw [Lib.size_mk, sumL_len]
  have hcv : ∀ X : World, (convert 9 67 (.string ⟨(sumL m.data.toList).toArray⟩)).run Tryd.prog X = .ok (.slice (some ⟨X.heap.size, 0, none⟩) 16 (grownCap X 16 0 5)) (X.drew.alloc (.cells (bytesRow ⟨(sumL m.data.toList).toArray⟩ (grownCap X 16 0 5)) 5 ((bytesRow ⟨(sumL m.data.toList).toArray⟩ (grownCap X 16 0 5)).size, (bytesRow ⟨(sumL m.data.toList).toArray⟩ (grownCap X 16 0 5)).size + 1))) := fun X => by
    have := run_bytes_of_string (P := Tryd.prog) X 9 67 5 ⟨(sumL m.data.toList).toArray⟩ Tryd.underlying9 Tryd.underlying67 Tryd.underlying5
    rw [hsz] at this
    exact this
  go_upto_region 3 with (fail)
  refine forget (fun X => Below w.heap.size w X ∧ Bk X (w.heap.size + 1) (digV (digTo (sumN m.data.toList) 0)) 44 ∧ Bk X w.heap.size (digV (digTo (sumN m.data.toList) 0)) 44) ⟨by (repeat (first | with_reducible exact Below.refl _ _ | with_reducible assumption | with_reducible refine Below.alloc0 ?_ _ | with_reducible refine Below.ext0 ?_ _ | with_reducible refine Below.drew ?_ | with_reducible refine below_drewN ?_ _ | (with_reducible refine Below.setCell (hp := ?hp) ?_ _; case hp => (first | (simp; done) | (simp; omega))))), by rw [digV_zero]; exact bk_next w _ _ _, by rw [digV_zero]; exact (Bk.new w _ _).alloc _⟩ ?_
  rintro X ⟨hX, b1, b0⟩
  have HX := Lib.hid (And.intro hX (And.intro b1 b0))
  clear hX b1 b0
  go_upto_region 4 with (go_at_call 39; refine (sum_any m _ hs (HT.out.below HX.out.1)).mono ?_; rintro e w2 ⟨rfl, z1⟩; have HZ := Lib.hid z1; clear z1)
  obtain ⟨n, hn⟩ : ∃ n, sumN m.data.toList = n := ⟨_, rfl⟩
  have hd9 : digitsL m.data.toList = ((digTo n 16).set 16 (restTo n 16 / 16)).set 17 (restTo n 16 % 16) := by rw [digTo_end]; unfold digitsL; rw [hn]
  have hbw : Below X.heap.size X (w2.drew.alloc (.cells (bytesRow ⟨(sumL m.data.toList).toArray⟩ (grownCap w2 16 0 5)) 5 ((bytesRow ⟨(sumL m.data.toList).toArray⟩ (grownCap w2 16 0 5)).size, (bytesRow ⟨(sumL m.data.toList).toArray⟩ (grownCap w2 16 0 5)).size + 1))) := Below.alloc0 (HZ.out.drew) _
  refine forget (fun Y => Below w.heap.size w Y ∧ Bk Y (w.heap.size + 1) (digV (digTo n 0)) 44 ∧ Bk Y w.heap.size (digV (digTo n 0)) 44 ∧ w2.heap.size < Y.heap.size ∧ ∀ i, i < 16 → Y.cell? ⟨w2.heap.size, i, none⟩ = some (.int .u8 ((hexC (digAt n i)).toNat : Int))) ⟨Below.trans0 HX.out.1 hbw, by have := HX.out.2.1.below hbw; rwa [hn] at this, by have := HX.out.2.2.below hbw; rwa [hn] at this, by simp, fun i hi => ?_⟩ ?_
  · have hb9 : (w2.alloc (.cells (bytesRow ⟨(sumL m.data.toList).toArray⟩ (grownCap w2 16 0 5)) 5 ((bytesRow ⟨(sumL m.data.toList).toArray⟩ (grownCap w2 16 0 5)).size, (bytesRow ⟨(sumL m.data.toList).toArray⟩ (grownCap w2 16 0 5)).size + 1))).heap[w2.heap.size]? = some _ := heap_alloc_new _ _
    have hc9 : (w2.alloc (.cells (bytesRow ⟨(sumL m.data.toList).toArray⟩ (grownCap w2 16 0 5)) 5 ((bytesRow ⟨(sumL m.data.toList).toArray⟩ (grownCap w2 16 0 5)).size, (bytesRow ⟨(sumL m.data.toList).toArray⟩ (grownCap w2 16 0 5)).size + 1))).cell? ⟨w2.heap.size, i, none⟩ = (bytesRow ⟨(sumL m.data.toList).toArray⟩ (grownCap w2 16 0 5))[i]? := by
      unfold World.cell?
      rw [hb9]
      simp only [Option.isSome_none, Bool.false_eq_true, if_false]
    refine hc9.trans ?_
    unfold bytesRow sumL
    rw [hn, Array.getElem?_append_left (by simp [hexL_len]; exact hi)]
    have := hexL_at n i (by rw [hexL_len]; exact hi)
    simp only [Array.getElem?_map, List.getElem?_toArray, List.getElem?_eq_getElem (show i < (hexL n).length by rw [hexL_len]; exact hi), this, Option.map_some]
    rfl
  have hcb : w.heap.size + 1 < w2.heap.size := by have := HX.out.2.1.lt; have := HZ.out.size; omega
  clear hbw HX HZ hcv hn hsz
  generalize w2.heap.size = cb at *
  rintro Y ⟨hY, b1, b0, lcb, hcell⟩
  have HY := Lib.hid (And.intro hY (And.intro b1 (And.intro b0 (And.intro hcell hd9))))
  clear hY b1 b0 hcell hd9
  go_wp2_with fail
  go_loopw [4, 5, 6, 11] (fun r _ _ i wr => ∃ k : Nat, k ≤ 16 ∧ i = .int .i64 k ∧ r = .int .i64 (restTo n k : Nat) ∧ Only (fun g => g = w.heap.size + 1) Y wr ∧ Bk wr (w.heap.size + 1) (digV (digTo n k)) 44) (fun _ _ _ i _ => 16 - (intOf i).toNat)
  case atStart => exact ⟨0, by omega, rfl, rfl, Only.refl _ _, HY.out.2.1⟩
  case round =>
    obtain ⟨k, hk, rfl, rfl, hlow, hb⟩ := hrel
    generalize wr = wA at *
    have hz := hlow.size
    have l1 := hb.lt
    by_cases hlt : k < 16
    · have hkl : (k : Int) < 16 := by omega
      have hcc : wA.cell? ⟨cb, k, none⟩ = some (.int .u8 ((hexC (digAt n k)).toNat : Int)) := (World.cell?_of_block (hlow.block cb lcb (fun h => by omega))).trans (HY.out.2.2.2.1 k hlt)
      have c1 : wA.cell? ⟨w.heap.size + 1, k, none⟩ = some (.int .i64 0) := by
        rw [hb.cell, digV_at (digTo_at (show k < 18 by omega)), if_neg (by omega)]
        rfl
      have f1 := hb.free k
      have lc : cb < wA.heap.size := by omega
      have hdl := digAt_lt n k
      have hrl := restTo_le n k
      have hst := digTo_step (n := n) (k := k) (by omega)
      have hrs : restTo n (k + 1) = restTo n k + (15 - digAt n k) := rfl
      have hix := index_any (digAt n k) hdl
      obtain ⟨D, hD⟩ : ∃ D, digAt n k = D := ⟨_, rfl⟩
      obtain ⟨R, hR⟩ : ∃ R, restTo n k = R := ⟨_, rfl⟩
      rw [hD] at hcc hdl hst hrs hix
      rw [hR] at hrl hrs
      simp only [hR]
      have HA := Lib.hid (And.intro hlow (And.intro hb (And.intro hst (And.intro hrs hix))))
      clear hlow hb hst hrs hix hD hR
      go_wp2_with (go_at_call 40; refine (HA.out.2.2.2.2 _).mono ?_; rintro e w3 ⟨rfl, rfl⟩)
      go_roundw
      case rel => exact ⟨k + 1, by omega, by go_num, by rw [HA.out.2.2.2.1]; go_num, HA.out.1.set_ (p := ⟨w.heap.size + 1, k, none⟩) (.inl rfl) _, by rw [← HA.out.2.2.1, ← digV_set]; exact HA.out.2.1.set_ k _⟩
      case measure => simp [intOf]; omega
    · obtain rfl : k = 16 := by omega
      have hrl := restTo_le n 16
      have hd9 := HY.out.2.2.2.2
      obtain ⟨R, hR⟩ : ∃ R, restTo n 16 = R := ⟨_, rfl⟩
      rw [hR] at hrl hd9
      simp only [hR]
      have c1 : wA.cell? ⟨w.heap.size + 1, 16, none⟩ = some (.int .i64 0) := by
        rw [hb.cell, digV_at (digTo_at (show 16 < 18 by omega)), if_neg (by omega)]
        rfl
      have c2 : wA.cell? ⟨w.heap.size + 1, 17, none⟩ = some (.int .i64 0) := by
        rw [hb.cell, digV_at (digTo_at (show 17 < 18 by omega)), if_neg (by omega)]
        rfl
      have f1 := hb.free
      have b0 := HY.out.2.2.1.only hlow (by omega)
      have HA := Lib.hid (And.intro hlow (And.intro hb (And.intro b0 hd9)))
      clear hlow hb b0 hd9 hR
      go_upto_region 11 with (fail)
      have hset : Bk ((wA.setCell ⟨w.heap.size + 1, 16, none⟩ (.int .i64 ((R : Int) / 16))).setCell ⟨w.heap.size + 1, 17, none⟩ (.int .i64 ((R : Int) % 16))) (w.heap.size + 1) (digV (digitsL m.data.toList)) 44 := by
        rw [HA.out.2.2.2, ← digV_set, ← digV_set]
        exact (HA.out.2.1.set_ 16 _).set_ 17 _
      refine forget (fun Z => Below w.heap.size w Z ∧ Bk Z (w.heap.size + 1) (digV (digitsL m.data.toList)) 44 ∧ Bk Z w.heap.size (digV (digTo n 0)) 44) ⟨?_, hset, (HA.out.2.2.1.far (by show w.heap.size ≠ w.heap.size + 1; omega) _).far (by show w.heap.size ≠ w.heap.size + 1; omega) _⟩ ?_
      · exact ((HY.out.1.trans (HA.out.1.to_below (B := w.heap.size) (fun g hg => by omega) (by omega))).setCell (by simp) _).setCell (by simp) _
      clear hset HA c1 c2 f1 l1 hz hrl hk hlt HY lcb hcb
      have hlen := digitsL_len m.data.toList
      have hone : (digV (digitsL m.data.toList)).all (·.oneCell') = true := by
        rw [Array.all_eq_true_iff_forall_mem]
        intro u hu
        unfold digV at hu
        rw [List.mem_toArray, List.mem_map] at hu
        obtain ⟨d, _, rfl⟩ := hu
        rfl
      obtain ⟨ds, hds⟩ : ∃ ds, digV (digitsL m.data.toList) = ds := ⟨_, rfl⟩
      have hsz : ds.size = 18 := by rw [← hds, digV_size, hlen]
      rw [hds] at hone
      simp only [hds]
      rintro Z ⟨hZ, b1, b0⟩
      have hzsz : (digV (digTo n 0)).size = 18 := by rw [digV_size, digTo_len]
      have HZ := Lib.hid (And.intro hZ (And.intro b1 (And.intro b0 hds)))
      clear hZ b1 b0 hds hlen
      go_wp2_with (first
        | (refine list_load_at (o := ⟨some 35, _, _, _, _, _⟩) rfl _ _ rfl (w.heap.size + 1) 0 rfl ds _ (fun j u h => by rw [Nat.zero_add, HZ.out.2.1.cell]; exact h) Tryd.underlying44 rfl (by rw [hsz]; kernel_rfl) ?_)
        | (refine list_store_bk (o := ⟨none, .store 44 _ _, _, _, _, _⟩) rfl _ _ _ rfl w.heap.size ds rfl rfl HZ.out.2.2.1 (by rw [hsz]; kernel_rfl) (by rw [hsz, hzsz]) hone ?_; intro X7 hb7 ho7; have H7 := Lib.hid (And.intro hb7 ho7); clear hb7 ho7))
      refine bodyPost_ret (v := .agg ds) ?_ rfl ?_
      · have hl := run_loadVar_at (P := Tryd.prog) (w := X7) (b := w.heap.size) (off := 0) (cs := ds) (fun j u h => by rw [Nat.zero_add, H7.out.1.cell]; exact h) Tryd.underlying44 rfl (by rw [hsz]; kernel_rfl)
        exact results_cell Tryd.results18 (p := ⟨w.heap.size, 0, none⟩) rfl hl
      · exact ⟨by rw [HZ.out.2.2.2], HZ.out.1.trans (H7.out.2.to_below (B := w.heap.size) (fun g hg => by omega) HZ.out.1.size)⟩
end Go.Proofs.YtojkpoikamcgkaaDoor
