/- Layer 13 (decide): the walks of Holds. -/
import Derived.Test.YtmklcfmdcfbpeaaDecP
import Derived.Test.YtmklcfmdcfbpeaaMap
import Derived.Test.YtmklcfmdcfbpeaaMid
import Derived.Test.YtmklcfmdcfbpeaaRows
import Derived.Outline
import Derived.Deep.RegionHeld3
import Derived.Deep.Cut
namespace Go.Proofs.Ytmklcfmdcfbpeaa
open Go.RowKit
set_option linter.unusedVariables false
set_option linter.unusedSimpArgs false
attribute [local go_sem] ext_cell ext_frozen lt_ext ext_drew

def znV (z : Zn) : Array Value := (pairsV z).toArray
def fcV (f : Fc) : Array Value := (intsV f).toArray
theorem znV_size {z : Zn} (h : z.length = 10) : (znV z).size = 20 := by simp [znV, pairsV_len, h]
theorem fcV_size {f : Fc} (h : f.length = 10) : (fcV f).size = 10 := by simp [fcV, intsV_len, h]
theorem znV_at {z : Zn} {k : Nat} (h : k < z.length) : (znV z)[k * 2]? = some (.int .i64 (atR z k).1) ∧ (znV z)[k * 2 + 1]? = some (.int .i64 (atR z k).2) := by
  have := pairsV_at (atR_get h)
  simpa [znV] using this
theorem fcV_at {f : Fc} {k : Nat} (h : k < f.length) : (fcV f)[k]? = some (.int .i64 (atF f k)) := by
  simpa [fcV] using intsV_at (atF_get h)
theorem index_fc {f : Fc} (hf : f.length = 10) {k : Nat} (hk : k < 10) (w : World) : (Instr.index 26 (.agg (fcV f)) (.int .i64 k)).run Try.prog w = .ok (.int .i64 (atF f k)) w :=
  run_index_one Try.underlying26 Try.underlying3 rfl (by kernel_rfl) _ k hk _ (fcV_at (by omega)) w

set_option maxHeartbeats 1000000 in
theorem zone_in (z : Zn) (f : Fc) (fb : Nat) (w : World) (hz : z.length = 10) (hf : f.length = 10) (hb : Bk w fb (fcV f) 26) :
    Calls Try.prog 22 #[.agg (znV z), .pointer (some ⟨fb, 0, none⟩)] w fun e w' => e = .returned (.bool (inZ z f)) ∧ Below w.heap.size w w' := by
  obtain ⟨r, hr⟩ : ∃ r, inZ z f = r := ⟨_, rfl⟩
  rw [hr]
  have Hr := Lib.hid hr
  have hbW := hb.below (below_self w (.cells (znV z) 44))
  have HB := Lib.hid hbW
  have hP := Bk.new w (znV z) 44
  have HP := Lib.hid hP
  have hlt := hP.lt
  clear hr hb hP hbW
  go_enter Try.func22, Try.ntmps22
  go_wp2_with (refine list_load_at (o := ⟨some 6, _, _, _, _, _⟩) rfl _ _ rfl fb 0 rfl (fcV f) _ (fun j u h => by rw [Nat.zero_add, HB.out.cell]; exact h) Try.underlying26 rfl (by rw [fcV_size hf]; kernel_rfl) ?_)
  go_loop [7] (fun i => ∃ k : Nat, k ≤ 10 ∧ i = .int .i64 k ∧ ∀ j, j < k → inR (atR z j) (atF f j) = true) (fun i => 10 - (intOf i).toNat)
  case atStart => exact ⟨0, by omega, rfl, fun j hj => by omega⟩
  case round =>
    obtain ⟨k, hk, rfl, hall⟩ := hrel
    have Hall := Lib.hid hall
    clear hall
    by_cases hlt10 : k < 10
    · have hix := index_fc hf hlt10
      have h1 : (w.alloc (.cells (znV z) 44)).cell? ⟨w.heap.size, k * 2, none⟩ = some (.int .i64 (atR z k).1) := by rw [HP.out.cell]; exact (znV_at (by omega)).1
      have h2 : (w.alloc (.cells (znV z) 44)).cell? ⟨w.heap.size, k * 2 + 1, none⟩ = some (.int .i64 (atR z k).2) := by rw [HP.out.cell]; exact (znV_at (by omega)).2
      have hk10 : (k : Int) < 10 := by omega
      by_cases hin : inR (atR z k) (atF f k) = true
      · have hin' := hin
        simp only [inR, Bool.and_eq_true, decide_eq_true_eq] at hin'
        obtain ⟨i1, i2⟩ := hin'
        have Hnew : Hid (∀ j, j < k + 1 → inR (atR z j) (atF f j) = true) := Lib.hid fun j hj => by
          by_cases e : j = k
          · subst e; exact hin
          · exact Hall.out j (by omega)
        clear hin
        generalize (atR z k).1 = lo at *
        generalize (atR z k).2 = hi at *
        generalize atF f k = n at *
        go_wp2_with fail
        go_round
        case rel => exact ⟨k + 1, by omega, by go_num, Hnew.out⟩
        case measure => simp [intOf]; omega
      · rw [Bool.not_eq_true] at hin
        obtain rfl : r = false := by rw [← Hr.out]; exact inZ_bad hlt10 hin
        have hno : atF f k < (atR z k).1 ∨ (atR z k).2 < atF f k := by
          simp only [inR, Bool.and_eq_false_iff, decide_eq_false_iff_not] at hin; omega
        clear hin
        generalize (atR z k).1 = lo at *
        generalize (atR z k).2 = hi at *
        generalize atF f k = n at *
        rcases hno with hno | hno
        · go_wp2_with fail
          go_ret
          exact ⟨rfl, below_self _ _⟩
        · by_cases h3 : n < lo
          · go_wp2_with fail
            go_ret
            exact ⟨rfl, below_self _ _⟩
          · have h4 : lo ≤ n := by omega
            go_wp2_with fail
            go_ret
            exact ⟨rfl, below_self _ _⟩
    · obtain rfl : k = 10 := by omega
      obtain rfl : r = true := by rw [← Hr.out]; exact inZ_all Hall.out
      go_wp2_with fail
      go_ret
      exact ⟨rfl, below_self _ _⟩

/-- What a search ends with. -/
def Found (w : World) (r : Bool) (e : Ending) (w' : World) : Prop := ∃ i : Int, e = .returned (.int .i64 i) ∧ Below w.heap.size w w' ∧ (r = false → i = -1) ∧ (r = true → 0 ≤ i)

theorem pick_zone {w : World} {B : Nat} {A : Option Addr} {zs : List Zn} (h : Elems tZn w B A zs) {k : Nat} (hk : k < zs.length) :
    ∃ b off z, A = some ⟨b, off, none⟩ ∧ b < B ∧ Hid (zs[k]? = some z) ∧ z.length = 10 ∧ Hid (∀ j u, (znV z)[j]? = some u → w.cell? ⟨b, off + k * 20 + j, none⟩ = some u) := by
  obtain ⟨b, off, z, cs, hA, hb, _, hx, _, hr, hc⟩ := h.pick hk
  obtain ⟨rfl, hz, _⟩ := zn_cells hr
  exact ⟨b, off, z, hA, hb, hx, hz, fun j u hu => hc j u (by simpa [znV] using hu)⟩
theorem any_take {α : Type} {xs : List α} {k : Nat} {x : α} (p : α → Bool) (h : xs[k]? = some x) : (xs.take (k + 1)).any p = ((xs.take k).any p || p x) := by
  rw [List.take_add_one, h, List.any_append]
  simp

-- FIND
set_option maxHeartbeats 1000000 in
theorem index_zones (A : Option Addr) (zs : List Zn) (cap : Nat) (f : Fc) (fb : Nat) (w : World) (B : Nat) (h : Elems tZn w B A zs) (hB : B ≤ w.heap.size) (hl : zs.length ≤ 9223372036854775807) (hf : f.length = 10) (hfb : Bk w fb (fcV f) 26) :
    Calls Try.prog 40 #[.slice A zs.length cap, .func (.func 22) #[] #[.pointer (some ⟨fb, 0, none⟩)]] w (Found w (zs.any (fun z => inZ z f))) := by
  obtain ⟨r, hr⟩ : ∃ r, zs.any (fun z => inZ z f) = r := ⟨_, rfl⟩
  rw [hr]
  have Hr := Lib.hid hr
  have HH := Lib.hid h
  have HFb := Lib.hid hfb
  clear hr h
  go_enter Try.func40, Try.ntmps40
  go_wp2_with fail
  go_loopw [8] (fun i wr => ∃ (k : Nat), k ≤ zs.length ∧ i = .int .i64 k ∧ (zs.take k).any (fun z => inZ z f) = false ∧ Below w.heap.size w wr) (fun i _ => zs.length - (intOf i).toNat)
  case atStart => exact ⟨0, by omega, rfl, rfl, Below.refl _ _⟩
  case round =>
    obtain ⟨k, hk, rfl, hany, hlow⟩ := hrel
    have HX := Lib.hid (And.intro hany hlow)
    have hbr : w.heap.size ≤ wr.heap.size := hlow.size
    have hE := HH.out.keep (hlow.mono hB) (Nat.le_refl _)
    clear hany hlow
    by_cases hlt : k < zs.length
    · obtain ⟨b, off, z, rfl, hb, Hk, hz, Hz⟩ := pick_zone hE hlt
      have bw : b < wr.heap.size := by omega
      have Hs := Lib.hid (any_take (fun z => inZ z f) Hk.out)
      have HZ := Lib.hid hz
      clear hE hz
      go_wp2_with (refine list_load_at (o := ⟨some 15, _, _, _, _, _⟩) rfl _ _ rfl b (off + k * 20) rfl (znV z) _ Hz.out Try.underlying44 rfl (by rw [znV_size HZ.out]; kernel_rfl) ?_)
      refine (zone_in z f fb _ HZ.out hf (HFb.out.below HX.out.2)).mono ?_
      rintro e w2 ⟨rfl, hb2⟩
      have HY := Lib.hid (Below.trans0 HX.out.2 hb2)
      clear hb2
      cases hp : (inZ z f) with
      | true =>
        have hr2 : r = true := by rw [← Hr.out, List.any_eq_true]; exact ⟨z, List.mem_of_getElem? Hk.out, hp⟩
        subst hr2
        have Hp := Lib.hid hp
        clear hp
        go_wp2_with fail
        go_ret
        exact ⟨k, rfl, HY.out, (fun h => by cases h), fun _ => by omega⟩
      | false =>
        have Hp := Lib.hid hp
        clear hp
        go_wp2_with fail
        go_roundw
        case rel => exact ⟨k + 1, by omega, by go_num, by rw [Hs.out, HX.out.1]; show (false || (inZ z f)) = false; rw [Hp.out]; rfl, HY.out⟩
        case measure => simp [intOf]; omega
    · obtain rfl : k = zs.length := by omega
      have hr2 : r = false := by rw [← Hr.out]; have := HX.out.1; rwa [List.take_length] at this
      subst hr2
      go_wp2_with fail
      go_ret
      exact ⟨-1, rfl, HX.out.2, fun _ => rfl, fun h => by cases h⟩

theorem contains_zones (A : Option Addr) (zs : List Zn) (cap : Nat) (f : Fc) (fb : Nat) (w : World) (B : Nat) (h : Elems tZn w B A zs) (hB : B ≤ w.heap.size) (hl : zs.length ≤ 9223372036854775807) (hf : f.length = 10) (hfb : Bk w fb (fcV f) 26) :
    Calls Try.prog 21 #[.slice A zs.length cap, .func (.func 22) #[] #[.pointer (some ⟨fb, 0, none⟩)]] w fun e w' => e = .returned (.bool (zs.any (fun z => inZ z f))) ∧ Below w.heap.size w w' := by
  have H := Lib.hid (index_zones A zs cap f fb w B h hB hl hf hfb)
  obtain ⟨r, hr⟩ : ∃ r, zs.any (fun z => inZ z f) = r := ⟨_, rfl⟩
  rw [hr] at H ⊢
  clear h hr
  go_enter Try.func21, Try.ntmps21
  go_wp2_with fail
  refine H.out.mono ?_
  rintro e w' ⟨i, rfl, hb, h1, h2⟩
  have HX := Lib.hid hb
  cases r with
  | true =>
    have hi := h2 rfl
    clear h1 h2 hb
    go_wp2_with fail
    go_ret
    exact ⟨rfl, HX.out⟩
  | false =>
    obtain rfl := h1 rfl
    clear h1 h2 hb
    go_wp2_with fail
    go_ret
    exact ⟨rfl, HX.out⟩
-- END FIND

/-- A rule's cells. -/
def rlV (kd : Int) (nm : ByteArray) (A : Option Addr) (n cap : Nat) (num rn rd sn sd : Int) : Array Value := #[.int .i64 kd, .string nm, .slice A n cap, .int .i64 num, .int .i64 rn, .int .i64 rd, .int .i64 sn, .int .i64 sd]

theorem holds_any (kd : Int) (nm : ByteArray) (A : Option Addr) (zs : List Zn) (cap n : Nat) (num rn rd sn sd : Int) (f : Fc) (w : World) (B : Nat) (h : Elems tZn w B A zs) (hB : B ≤ w.heap.size) (hn : zs.length = n) (hl : n ≤ 9223372036854775807) (hf : f.length = 10) :
    Calls Try.prog 12 #[.agg (rlV kd nm A n cap num rn rd sn sd), .agg (fcV f)] w fun e w' => e = .returned (.bool (zs.any fun z => inZ z f)) ∧ Below w.heap.size w w' := by
  subst hn
  unfold rlV
  have HH := Lib.hid h
  clear h
  go_enter Try.func12, Try.ntmps12
  go_wp2_with fail
  refine (contains_zones A zs cap f (w.heap.size + 1) _ B (HH.out.keep (((Below.refl _ _).alloc hB _).alloc (by simp; omega) _) (Nat.le_refl _)) (by simp; omega) hl hf (bk_new_at _ _ _ _ (by simp))).mono ?_
  rintro e w' ⟨rfl, hb⟩
  have HX := Lib.hid hb
  clear hb
  go_wp2_with fail
  go_ret
  exact ⟨rfl, (((Below.refl _ w).alloc (Nat.le_refl _) _).alloc (by simp) _).trans (HX.out.mono (by simp; omega))⟩

set_option maxHeartbeats 1000000 in
theorem rholds_any (kd : Int) (nm : ByteArray) (A : Option Addr) (zs : List Zn) (cap n : Nat) (num rn rd sn sd : Int) (f : Fc) (w : World) (B : Nat) (h : Elems tZn w B A zs) (hB : B ≤ w.heap.size) (hn : zs.length = n) (hl : n ≤ 9223372036854775807) (hf : f.length = 10) :
    Calls Try.prog 13 #[.agg (rlV kd nm A n cap num rn rd sn sd), .agg (fcV f)] w fun e w' => e = .returned (.bool (zs.any fun z => inZ z f)) ∧ Below w.heap.size w w' := by
  subst hn
  unfold rlV
  obtain ⟨r, hr⟩ : ∃ r, (zs.any fun z => inZ z f) = r := ⟨_, rfl⟩
  rw [hr]
  have Hr := Lib.hid hr
  have HH := Lib.hid h
  clear h hr
  go_enter Try.func13, Try.ntmps13
  go_wp2_with fail
  refine forget (fun W => Below w.heap.size w W ∧ Bk W w.heap.size #[.int .i64 kd, .string nm, .slice A zs.length cap, .int .i64 num, .int .i64 rn, .int .i64 rd, .int .i64 sn, .int .i64 sd] 34 ∧ Bk W (w.heap.size + 1) (fcV f) 26) ⟨?_, ?_, ?_⟩ ?_
  · (repeat (first | with_reducible exact Below.refl _ _ | with_reducible assumption | with_reducible refine Below.alloc0 ?_ _ | with_reducible refine Below.ext0 ?_ _ | with_reducible refine Below.drew ?_ | with_reducible refine below_drewN ?_ _ | (with_reducible refine Below.setCell (hp := ?hp) ?_ _; case hp => (first | (simp; done) | (simp; omega)))))
  · exact (Bk.new w _ _).alloc _
  · exact bk_new_at _ _ _ _ (by simp)
  rintro W ⟨hw, b0, b1⟩
  have c2 : W.cell? ⟨w.heap.size, 2, none⟩ = some (.slice A zs.length cap) := b0.cell 2
  have l0 := b0.lt
  have l1 := b1.lt
  have HF := Lib.hid b1
  have hE := HH.out.keep (hw.mono hB) (Nat.le_refl _)
  have hBW : B ≤ W.heap.size := Nat.le_trans hB hw.size
  have HW := Lib.hid hw
  clear hw b0 b1 HH
  go_loopw [5, 6, 7] (fun i _ _ wr => ∃ (k q : Nat), k ≤ zs.length ∧ i = .int .i64 k ∧ ((zs.take k).any fun z => inZ z f) = false ∧ wr = W.drewN q) (fun i _ _ _ => zs.length - (intOf i).toNat)
  case atStart => exact ⟨0, 0, by omega, rfl, rfl, rfl⟩
  case round =>
    obtain ⟨k, q, hk, rfl, hany, rfl⟩ := hrel
    have Hany := Lib.hid hany
    clear hany
    by_cases hlt : k < zs.length
    · obtain ⟨b, off, z, rfl, hb, Hk, hz, Hz⟩ := pick_zone hE hlt
      have bw : b < W.heap.size := by omega
      have Hs := Lib.hid (any_take (fun z => inZ z f) Hk.out)
      have HZ := Lib.hid hz
      have hkl : (k : Int) < (zs.length : Int) := by omega
      clear hE hz
      go_wp2_with fail
      obtain ⟨wo, hwo⟩ : ∃ wo : World, wo = W.drewN q := ⟨_, rfl⟩
      go_loopw [6, 7] (fun t i wr => ∃ (j q2 : Nat), j ≤ 10 ∧ i = .int .i64 j ∧ t = .bool ((List.range j).all fun i => inR (atR z i) (atF f i)) ∧ wr = W.drewN q2) (fun _ i _ => 10 - (intOf i).toNat)
      case atStart => exact ⟨0, q, by omega, rfl, rfl, rfl⟩
      case round =>
        obtain ⟨j, q2, hj, rfl, rfl, rfl⟩ := hrel
        by_cases hj10 : j < 10
        · have h1 : W.cell? ⟨b, off + k * 20 + j * 2, none⟩ = some (.int .i64 (atR z j).1) := Hz.out _ _ (znV_at (by rw [HZ.out]; omega)).1
          have h2 : W.cell? ⟨b, off + k * 20 + j * 2 + 1, none⟩ = some (.int .i64 (atR z j).2) := by rw [Nat.add_assoc]; exact Hz.out _ _ (znV_at (by rw [HZ.out]; omega)).2
          have h3 : W.cell? ⟨w.heap.size + 1, j, none⟩ = some (.int .i64 (atF f j)) := by rw [HF.out.cell]; exact fcV_at (by omega)
          have hj10' : (j : Int) < 10 := by omega
          have hstep : ((List.range (j + 1)).all fun i => inR (atR z i) (atF f i)) = (((List.range j).all fun i => inR (atR z i) (atF f i)) && inR (atR z j) (atF f j)) := by
            rw [List.range_succ, List.all_append]; simp
          have Hstep := Lib.hid hstep
          clear hstep
          generalize ((List.range j).all fun i => inR (atR z i) (atF f i)) = t at *
          have hin : inR (atR z j) (atF f j) = (decide ((atR z j).1 ≤ atF f j) && decide (atF f j ≤ (atR z j).2)) := rfl
          rw [hin] at Hstep
          clear hin
          generalize (atR z j).1 = lo at *
          generalize (atR z j).2 = hi at *
          generalize atF f j = n at *
          cases t
          · go_wp2_with fail
            go_quiet (fail)
            go_wp2_with fail
            go_roundw
            case rel => exact ⟨j + 1, _, by omega, by go_num, val_bool (by rw [Hstep.out]; rfl), rfl⟩
            case measure => simp [intOf]; omega
          · by_cases i1 : lo ≤ n
            · by_cases i2 : n ≤ hi
              · have z1 : decide (lo ≤ n) = true := decide_eq_true i1
                have z2 : decide (n ≤ hi) = true := decide_eq_true i2
                go_wp2_with fail
                go_quiet (fail)
                go_wp2_with fail
                go_roundw
                case rel => exact ⟨j + 1, _, by omega, by go_num, val_bool (by rw [Hstep.out]; simp [i1, i2]), rfl⟩
                case measure => simp [intOf]; omega
              · have z1 : decide (lo ≤ n) = true := decide_eq_true i1
                have z2 : decide (n ≤ hi) = false := decide_eq_false i2
                go_wp2_with fail
                go_quiet (fail)
                go_wp2_with fail
                go_roundw
                case rel => exact ⟨j + 1, _, by omega, by go_num, val_bool (by rw [Hstep.out]; simp [i1, i2]), rfl⟩
                case measure => simp [intOf]; omega
            · have z1 : decide (lo ≤ n) = false := decide_eq_false i1
              go_wp2_with fail
              go_quiet (fail)
              go_wp2_with fail
              go_roundw
              case rel => exact ⟨j + 1, _, by omega, by go_num, val_bool (by rw [Hstep.out]; first | (simp [i1]; done) | (rw [z1]; simp; done) | (simp; omega) | (simp; intro h; omega)), rfl⟩
              case measure => simp [intOf]; omega
        · obtain rfl : j = 10 := by omega
          cases hp : inZ z f with
          | true =>
            have hp' : ((List.range 10).all fun i => inR (atR z i) (atF f i)) = true := hp
            have hr2 : r = true := by rw [← Hr.out, List.any_eq_true]; exact ⟨z, List.mem_of_getElem? Hk.out, hp⟩
            subst hr2
            clear hp
            generalize ((List.range 10).all fun i => inR (atR z i) (atF f i)) = t at *
            subst hp'
            go_wp2_with fail
            go_ret
            exact ⟨rfl, below_drewN HW.out _⟩
          | false =>
            have hp' : ((List.range 10).all fun i => inR (atR z i) (atF f i)) = false := hp
            have Hp := Lib.hid hp
            clear hp
            generalize ((List.range 10).all fun i => inR (atR z i) (atF f i)) = t at *
            subst hp'
            go_wp2_with fail
            go_roundw
            case rel => exact ⟨k + 1, q2, by omega, by go_num, by rw [Hs.out, Hany.out, Hp.out]; rfl, rfl⟩
            case measure => simp [intOf]; omega
    · obtain rfl : k = zs.length := by omega
      have hr2 : r = false := by rw [← Hr.out]; have := Hany.out; rwa [List.take_length] at this
      subst hr2
      go_wp2_with fail
      go_ret
      exact ⟨rfl, below_drewN HW.out _⟩
end Go.Proofs.Ytmklcfmdcfbpeaa
