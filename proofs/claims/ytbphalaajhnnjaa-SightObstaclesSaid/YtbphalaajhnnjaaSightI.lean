/- Layer 9 (sight): View for every hall with few pillars; Few; points and boxes. -/
import Derived.Test.YtbphalaajhnnjaaSightH
import Derived.Test.YtbphalaajhnnjaaExt
namespace Go.Proofs.Ytbphalaajhnnjaa
open Go.RowKit
set_option linter.unusedVariables false

abbrev fewL (ls : List Lv) : Prop := ∀ l ∈ ls, l.2.2.2.2.2.1.length ≤ 1000

theorem viewZ_out {h : Hl} {level : Int} {p : Pt} (hl : level < 0 ∨ (h.2.2.length : Int) ≤ level) : viewZ h level p = 3 := by
  unfold viewZ
  by_cases h0 : level < 0
  · rw [if_pos h0]
  · rw [if_neg h0, List.getElem?_eq_none (by omega)]
theorem viewZ_at {h : Hl} {k : Nat} {p : Pt} {l : Lv} (hl : h.2.2[k]? = some l) : viewZ h k p = viewB p.1 p.2 h.2.1.1 h.2.1.2 l := by
  unfold viewZ
  rw [if_neg (by omega), Int.toNat_natCast, hl]

theorem view_any (r : Int) (nm : ByteArray) (sx sy : Int) (LA : Option Addr) (ls : List Lv) (lc : Nat) (level px py : Int) (w : World) (B : Nat) (hls : Elems tLevel w B LA ls) (hB : B ≤ w.heap.size) (hl : ls.length ≤ 9223372036854775807)
    (hsx : fits sx) (hsy : fits sy) (hpx : fits px) (hpy : fits py) (hfew : Hid (fewL ls)) (hr : Hid (viewZ (nm, (sx, sy), ls) level (px, py) = r)) :
    Calls Try.prog 13 #[.agg #[.string nm, .int .i64 sx, .int .i64 sy, .slice LA ls.length lc], .int .i64 level, .agg #[.int .i64 px, .int .i64 py]] w
      fun e w' => e = .returned (.int .i64 r) ∧ Below w.heap.size w w' := by
  rw [← hr.out]
  by_cases ho : level < 0 ∨ (ls.length : Int) ≤ level
  · rw [viewZ_out ho]
    exact view_out nm sx sy LA ls.length lc level px py w ho hl
  · obtain ⟨k, rfl⟩ := Int.eq_ofNat_of_zero_le (show 0 ≤ level by omega)
    have hk : k < ls.length := by omega
    have hx := List.getElem?_eq_getElem hk
    rw [viewZ_at hx]
    unfold viewB
    by_cases hc : [px, py, sx, sy, (ls[k]).2.1].all coordB = true
    · rw [if_pos hc]
      refine (view_main nm sx sy LA ls lc k px py w B hls hB hl hk (fun l h => ?_) (fun l h => hfew.out l (List.mem_of_getElem? h))).mono fun e w' ⟨he, hb⟩ => ⟨he _ hx, hb⟩
      rw [hx] at h; injection h with h; rw [← h]; exact hc
    · rw [if_neg hc]
      refine view_bad nm sx sy LA ls lc k px py w B hls hB hl hk hsx hsy hpx hpy (fun l h => ?_)
      rw [hx] at h; injection h with h; rw [← h]; show _ = false; simpa only [Bool.not_eq_true] using hc

theorem rview_any (r : Int) (nm : ByteArray) (sx sy : Int) (LA : Option Addr) (ls : List Lv) (lc : Nat) (level px py : Int) (w : World) (B : Nat) (hls : Elems tLevel w B LA ls) (hB : B ≤ w.heap.size) (hl : ls.length ≤ 9223372036854775807)
    (hsx : fits sx) (hsy : fits sy) (hpx : fits px) (hpy : fits py) (hfew : Hid (fewL ls)) (hr : Hid (viewZ (nm, (sx, sy), ls) level (px, py) = r)) :
    Calls Try.prog 14 #[.agg #[.string nm, .int .i64 sx, .int .i64 sy, .slice LA ls.length lc], .int .i64 level, .agg #[.int .i64 px, .int .i64 py]] w
      fun e w' => e = .returned (.int .i64 r) ∧ Below w.heap.size w w' := by
  rw [← hr.out]
  by_cases ho : level < 0 ∨ (ls.length : Int) ≤ level
  · rw [viewZ_out ho]
    exact rview_out nm sx sy LA ls.length lc level px py w ho hl
  · obtain ⟨k, rfl⟩ := Int.eq_ofNat_of_zero_le (show 0 ≤ level by omega)
    have hk : k < ls.length := by omega
    have hx := List.getElem?_eq_getElem hk
    rw [viewZ_at hx]
    unfold viewB
    by_cases hc : [px, py, sx, sy, (ls[k]).2.1].all coordB = true
    · rw [if_pos hc]
      refine (rview_main nm sx sy LA ls lc k px py w B hls hB hl hk (fun l h => ?_) (fun l h => hfew.out l (List.mem_of_getElem? h))).mono fun e w' ⟨he, hb⟩ => ⟨he _ hx, hb⟩
      rw [hx] at h; injection h with h; rw [← h]; exact hc
    · rw [if_neg hc]
      refine rview_bad nm sx sy LA ls lc k px py w B hls hB hl hk hsx hsy hpx hpy (fun l h => ?_)
      rw [hx] at h; injection h with h; rw [← h]; show _ = false; simpa only [Bool.not_eq_true] using hc

set_option maxHeartbeats 400000 in
theorem point_any (x y : Int) (w : World) : Calls Try.prog 15 #[.int .i64 x, .int .i64 y] w fun e w' => e = .returned (.agg #[.int .i64 x, .int .i64 y]) ∧ Below w.heap.size w w' := by
  go_enter Try.func15, Try.ntmps15
  go_wp2
  exact bodyPost_ret (v := .agg #[.int .i64 x, .int .i64 y]) (by simp [results, Try.results15, go_sem]) rfl ⟨rfl, (Below.refl _ _).alloc (Nat.le_refl _) _⟩

set_option maxHeartbeats 400000 in
theorem box_any (x y x2 y2 : Int) (w : World) : Calls Try.prog 17 #[.int .i64 x, .int .i64 y, .int .i64 x2, .int .i64 y2] w fun e w' => e = .returned (.agg #[.int .i64 x, .int .i64 y, .int .i64 x2, .int .i64 y2]) ∧ Below w.heap.size w w' := by
  go_enter Try.func17, Try.ntmps17
  go_wp2
  exact bodyPost_ret (v := .agg #[.int .i64 x, .int .i64 y, .int .i64 x2, .int .i64 y2]) (by simp [results, Try.results17, go_sem]) rfl ⟨rfl, (Below.refl _ _).alloc (Nat.le_refl _) _⟩

def fewB (ls : List Lv) (levels pillars : Int) : Bool := ls.all (fun l => decide ((l.2.2.2.2.2.1.length : Int) ≤ pillars)) && decide ((ls.length : Int) ≤ levels)

set_option maxHeartbeats 400000 in
theorem few_any (nm : ByteArray) (sx sy : Int) (LA : Option Addr) (ls : List Lv) (lc : Nat) (levels pillars : Int) (w : World) (B : Nat) (hls : Elems tLevel w B LA ls) (hB : B ≤ w.heap.size) (hl : ls.length ≤ 9223372036854775807) :
    Calls Try.prog 10 #[.agg #[.string nm, .int .i64 sx, .int .i64 sy, .slice LA ls.length lc], .int .i64 levels, .int .i64 pillars] w
      fun e w' => e = .returned (.bool (fewB ls levels pillars)) ∧ Below w.heap.size w w' := by
  go_enter Try.func10, Try.ntmps10
  go_wp2
  go_loop [7] (fun i => ∃ k : Nat, k ≤ ls.length ∧ i = .int .i64 k ∧ ls.all (fun l => decide ((l.2.2.2.2.2.1.length : Int) ≤ pillars)) = (ls.drop k).all (fun l => decide ((l.2.2.2.2.2.1.length : Int) ≤ pillars))) (fun i => ls.length - (intOf i).toNat)
  case atStart => exact ⟨0, by omega, rfl, by simp⟩
  case round =>
    obtain ⟨k, hk, rfl, hall⟩ := hrel
    have Hall := Lib.hid hall
    clear hall
    by_cases hlt : k < ls.length
    · obtain ⟨b, off, lnm, ht, at_, h1, h2, h3, h4, PA, pc, ps, rfl, hb, hx, ⟨c0, c1, c2, c3, c4, c5, c6, c7⟩, fht, fat, hnm, hp1, hp2, hps⟩ := pick_level hls hlt
      have Hz : Hid (ls.drop k = (lnm, ht, h1, h2, h3, ps, h4, at_) :: ls.drop (k + 1)) := by
        have := hx.out
        obtain ⟨h', e⟩ := List.getElem?_eq_some_iff.1 this
        show ls.drop k = _
        rw [← e]; exact List.drop_eq_getElem_cons hlt
      have hbw : b < w.heap.size := by omega
      have k0 : (0 : Int) ≤ k := by omega
      have k1 : (k : Int) < ls.length := by omega
      clear hx hps c0 c1 c2 c3 c4 c6 c7
      unfold maxLen at hp2
      by_cases hp : (ps.length : Int) ≤ pillars
      · go_wp2
        go_round
        case rel => exact ⟨k + 1, by omega, by go_num, by rw [Hall.out, Hz.out]; simp [hp]⟩
        case measure => simp [intOf]; omega
      · go_wp2
        go_ret
        refine ⟨ret_bool ?_, (Below.refl _ _).alloc (Nat.le_refl _) _⟩
        unfold fewB
        rw [Hall.out, Hz.out, List.all_cons]
        have e : decide ((ps.length : Int) ≤ pillars) = false := decide_eq_false (by omega)
        simp only [e, Bool.false_and]
    · go_wp2
      go_ret
      refine ⟨ret_bool ?_, (Below.refl _ _).alloc (Nat.le_refl _) _⟩
      unfold fewB
      rw [Hall.out, List.drop_eq_nil_of_le (by omega)]
      simp

theorem few_is (r : Bool) (nm : ByteArray) (sx sy : Int) (LA : Option Addr) (ls : List Lv) (lc : Nat) (levels pillars : Int) (w : World) (B : Nat) (hls : Elems tLevel w B LA ls) (hB : B ≤ w.heap.size) (hl : ls.length ≤ 9223372036854775807) (hr : Hid (fewB ls levels pillars = r)) :
    Calls Try.prog 10 #[.agg #[.string nm, .int .i64 sx, .int .i64 sy, .slice LA ls.length lc], .int .i64 levels, .int .i64 pillars] w
      fun e w' => e = .returned (.bool r) ∧ Below w.heap.size w w' := by
  rw [← hr.out]
  exact few_any nm sx sy LA ls lc levels pillars w B hls hB hl
end Go.Proofs.Ytbphalaajhnnjaa
