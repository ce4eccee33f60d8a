/- Layer 34 (deal): total, the sum of means. -/
import Derived.Test.YtggmihnhdojepaaDealD
namespace Go.Proofs.Ytggmihnhdojepaa
open Go.RowKit
set_option linter.unusedVariables false
set_option linter.unusedSimpArgs false
attribute [local go_sem] ext_cell ext_frozen lt_ext ext_drew

abbrev tMean : Ty Mn := tPair tStr tInt
theorem pick_mean {w : World} {B : Nat} {A : Option Addr} {ms : List Mn} (h : Elems tMean w B A ms) {k : Nat} (hk : k < ms.length) :
    ∃ b off nm a, A = some ⟨b, off, none⟩ ∧ b < B ∧ Hid (ms[k]? = some (nm, a)) ∧ w.cell? ⟨b, off + k * 2, none⟩ = some (.string nm) ∧ w.cell? ⟨b, off + k * 2 + 1, none⟩ = some (.int .i64 a) ∧ nm.size ≤ maxLen ∧ fits a := by
  obtain ⟨b, off, ⟨nm, a⟩, cs, hA, hb, _, hx, _, ⟨c1, c2, rfl, ⟨rfl, h1⟩, ⟨rfl, h2⟩⟩, hc⟩ := h.pick hk
  exact ⟨b, off, nm, a, hA, hb, hx, hc 0 _ rfl, hc 1 _ rfl, h1, h2⟩

def MeansSeen (w : World) (qb mb : Nat) (ms : List Mn) (e : Ending) (w' : World) : Prop :=
  ∃ (i S : Int), e = .returned (.int .i64 i) ∧ Bk w' qb #[.int .i64 S] 3 ∧ Only (fun g => g = qb ∨ g = mb) w w' ∧ (okM ms = true → i = -1 ∧ S = sumM ms) ∧ (okM ms = false → 0 ≤ i)
def MeansBad (w : World) (qb mb : Nat) (ms : List Mn) (e : Ending) (w' : World) : Prop :=
  ∃ S : Int, e = .returned (.bool (!okM ms)) ∧ Bk w' qb #[.int .i64 S] 3 ∧ Only (fun g => g = qb ∨ g = mb) w w' ∧ (okM ms = true → S = sumM ms)

set_option maxHeartbeats 1000000 in
theorem index_means (A : Option Addr) (ms : List Mn) (cap : Nat) (w : World) (B sb qb mb : Nat) (h : Elems tMean w B A ms) (hB : B ≤ w.heap.size) (hl : ms.length ≤ 12) (hs : Bk w sb #[.map (some mb)] 87) (hq : Bk w qb #[.int .i64 0] 3)
    (hm : MapB litS Try.prog 9 4 w mb 0 (fun _ => none)) (hqB : B ≤ qb) (hmB : B ≤ mb) (hsq : sb ≠ qb) :
    Calls Try.prog 61 #[.slice A ms.length cap, .func (.func 49) #[] #[.pointer (some ⟨sb, 0, none⟩), .pointer (some ⟨qb, 0, none⟩)]] w (MeansSeen w qb mb ms) := by
  have hsm := hm.ne hs
  have HQ := Lib.hid (And.intro hs (And.intro hq hm))
  have hl' : (ms.length : Int) ≤ 12 := by omega
  clear hs hq hm
  go_enter Try.func61, Try.ntmps61
  go_wp2_with fail
  go_loopw [8] (fun i wr => ∃ (k m : Nat), k ≤ ms.length ∧ i = .int .i64 k ∧ okTo ms k ∧ Bk wr qb #[.int .i64 (sumM (ms.take k))] 3 ∧ Bk wr sb #[.map (some mb)] 87 ∧ MapB litS Try.prog 9 4 wr mb m (seenF (ms.take k)) ∧ m ≤ k ∧ Only (fun g => g = qb ∨ g = mb) w wr) (fun i _ => ms.length - (intOf i).toNat)
  case atStart => exact ⟨0, 0, by omega, rfl, fun j hj => by omega, HQ.out.2.1, HQ.out.1, HQ.out.2.2, Nat.le_refl _, Only.refl _ _⟩
  case round =>
    obtain ⟨k, m, hk, rfl, hall, hbk, hbs, hmp, hmk, hon⟩ := hrel
    have hE := h.keep (hon.to_below (B := B) (fun g hg => by omega) hB) (Nat.le_refl _)
    have hs := okTo_sum k hk hall
    obtain ⟨hs1, hs2⟩ := hs
    have HX := Lib.hid (And.intro hall (And.intro hbk (And.intro hbs (And.intro hmp hon))))
    have hBr : B ≤ wr.heap.size := Nat.le_trans hB hon.size
    clear hall hbk hbs hmp hon
    by_cases hlt : k < ms.length
    · obtain ⟨b, off, nm, a, rfl, hb, Hk, c0, c1, f0, f1⟩ := pick_mean hE hlt
      have Hs := Lib.hid (sumM_take Hk.out)
      have bw : b < wr.heap.size := by omega
      clear hE
      go_wp2_with fail
      refine (mean_bad nm a _ _ sb qb mb m _ HX.out.2.2.1 HX.out.2.1 HX.out.2.2.2.1 (by omega) ⟨hs1, by omega⟩ f1 f0).mono ?_
      rintro e w2 ⟨rfl, S', m', hbk, hS', hmp, hm', hon⟩
      rw [seenF_get]
      have hmp2 : MapB litS Try.prog 9 4 w2 mb m' (seenF (ms.take (k + 1))) := by rw [← seenF_put Hk.out]; exact hmp
      have HY := Lib.hid (And.intro hbk (And.intro hS' (And.intro hmp2 (And.intro (HX.out.2.2.1.only hon (by omega)) hon))))
      clear hbk hS' hmp hmp2 hon
      cases hL : badM ms k (nm, a) with
      | false =>
        have HL := Lib.hid hL
        have hL2 : (hasM (ms.take k) nm || !meanB (nm, a)) = false := hL
        rw [hL2]
        clear hL hL2
        go_wp2_with fail
        go_roundw
        case rel =>
          refine ⟨k + 1, m', by omega, by go_num, okTo_step HX.out.1 Hk.out HL.out, ?_, HY.out.2.2.2.1, HY.out.2.2.1, by omega, HX.out.2.2.2.2.trans HY.out.2.2.2.2⟩
          rw [Hs.out, ← HY.out.2.1 (badM_false HL.out).2]
          exact HY.out.1
        case measure => simp [intOf]; omega
      | true =>
        have HL := Lib.hid hL
        have hL2 : (hasM (ms.take k) nm || !meanB (nm, a)) = true := hL
        rw [hL2]
        clear hL hL2
        go_wp2_with fail
        go_ret
        exact ⟨k, S', rfl, HY.out.1, HX.out.2.2.2.2.trans HY.out.2.2.2.2, fun h => absurd ((okM_bad Hk.out HL.out).symm.trans h) (by decide), fun _ => by omega⟩
    · obtain rfl : k = ms.length := by omega
      have Hall := Lib.hid (okM_all HX.out.1)
      go_wp2_with fail
      go_ret
      have := HX.out.2.1
      rw [List.take_length] at this
      exact ⟨-1, _, rfl, this, HX.out.2.2.2.2, fun _ => ⟨rfl, rfl⟩, fun h => absurd (Hall.out.symm.trans h) (by decide)⟩

theorem contains_means (A : Option Addr) (ms : List Mn) (cap n : Nat) (w : World) (B sb qb mb : Nat) (h : Elems tMean w B A ms) (hB : B ≤ w.heap.size) (hn : ms.length = n) (hl : n ≤ 12) (hs : Bk w sb #[.map (some mb)] 87) (hq : Bk w qb #[.int .i64 0] 3)
    (hm : MapB litS Try.prog 9 4 w mb 0 (fun _ => none)) (hqB : B ≤ qb) (hmB : B ≤ mb) (hsq : sb ≠ qb) :
    Calls Try.prog 50 #[.slice A n cap, .func (.func 49) #[] #[.pointer (some ⟨sb, 0, none⟩), .pointer (some ⟨qb, 0, none⟩)]] w (MeansBad w qb mb ms) := by
  subst hn
  have H := Lib.hid (index_means A ms cap w B sb qb mb h hB hl hs hq hm hqB hmB hsq)
  clear h hq hs hm
  go_enter Try.func50, Try.ntmps50
  go_wp2_with fail
  refine H.out.mono ?_
  rintro e w' ⟨i, S, rfl, hbk, hon, h1, h2⟩
  have HX := Lib.hid (And.intro hbk (And.intro hon (And.intro h1 h2)))
  clear hbk hon h1 h2
  cases hr : okM ms with
  | true =>
    obtain ⟨rfl, _⟩ := HX.out.2.2.1 hr
    have Hr := Lib.hid hr
    clear hr
    go_wp2_with fail
    go_ret
    exact ⟨S, ret_bool (by rw [Hr.out]; rfl), HX.out.1, HX.out.2.1, fun h => (HX.out.2.2.1 h).2⟩
  | false =>
    have hi := HX.out.2.2.2 hr
    have Hr := Lib.hid hr
    clear hr
    go_wp2_with fail
    go_ret
    exact ⟨S, ret_bool (by rw [Hr.out]; rfl), HX.out.1, HX.out.2.1, fun h => (HX.out.2.2.1 h).2⟩

def totB (ms : List Mn) : Bool := decide (ms.length ≤ 12) && okM ms
def totV (ms : List Mn) : Int := if totB ms then sumM ms else 0

set_option maxRecDepth 100000 in
set_option maxHeartbeats 2000000 in
theorem total_any (A : Option Addr) (ms : List Mn) (cap n : Nat) (w : World) (B : Nat) (h : Elems tMean w B A ms) (hB : B ≤ w.heap.size) (hn : ms.length = n) (hl : n ≤ 9223372036854775807) :
    Calls Try.prog 26 #[.slice A n cap] w fun e w' => e = .returned (.tuple #[.int .i64 (totV ms), .bool (totB ms)]) ∧ Below w.heap.size w w' := by
  obtain ⟨tv, htv⟩ : ∃ v, totV ms = v := ⟨_, rfl⟩
  obtain ⟨tb, htb⟩ : ∃ v, totB ms = v := ⟨_, rfl⟩
  rw [htv, htb]
  have Htv := Lib.hid htv
  have Htb := Lib.hid htb
  have HH := Lib.hid h
  have Hn := Lib.hid hn
  clear htv htb h hn
  have hmm := @run_makeMap Try.prog
  go_enter Try.func26, Try.ntmps26
  go_upto_region 2 with (fail)
  refine forget (fun W => Below w.heap.size w W ∧ MapB litS Try.prog 9 4 W w.heap.size 0 (fun _ => none) ∧ Bk W (w.heap.size + 2) #[.map (some w.heap.size)] 87 ∧ Bk W (w.heap.size + 1) #[.int .i64 0] 3 ∧ W.heap.size = w.heap.size + 3) ⟨?_, ?_, ?_, ?_, ?_⟩ ?_
  · (repeat (first | with_reducible exact Below.refl _ _ | with_reducible assumption | with_reducible refine Below.alloc0 ?_ _ | with_reducible refine Below.ext0 ?_ _ | with_reducible refine Below.drew ?_ | with_reducible refine below_drewN ?_ _ | (with_reducible refine Below.setCell (hp := ?hp) ?_ _; case hp => (first | (simp; done) | (simp; omega)))))
  · exact ((MapB.new litS Try.prog 9 4 w).below (below_self _ _)).below (below_self _ _)
  · exact bk_new_at _ _ _ _ (by simp)
  · exact (bk_new_at _ _ _ _ (by simp)).alloc _
  · simp
  rintro W ⟨hw, mp, b2, b3, hsz⟩
  generalize hg : w.heap.size = g at *
  have HB := Lib.hid (And.intro hw (And.intro mp (And.intro b2 (And.intro b3 (And.intro hsz hg)))))
  have HEl := Lib.hid (HH.out.keep (hw.mono hB) (Nat.le_refl _))
  have hBW : B ≤ W.heap.size := by omega
  have cq0 : W.cell? ⟨g + 1, 0, none⟩ = some (.int .i64 0) := b3.cell 0
  have lq0 := b3.lt
  clear hw mp b2 b3 hsz hg HH hmm
  by_cases h12 : n ≤ 12
  · have n12' : (n : Int) ≤ 12 := by omega
    go_wp2_with (go_at_call 50; refine (contains_means A ms cap n W B (g + 2) (g + 1) g HEl.out hBW Hn.out h12 HB.out.2.2.1 HB.out.2.2.2.1 HB.out.2.1 (by omega) (by omega) (by omega)).mono ?_; rintro e w3 ⟨S, rfl, hbk, hon, hS⟩; have cq : w3.cell? ⟨g + 1, 0, none⟩ = some (.int .i64 S) := hbk.cell 0; have lq := hbk.lt; have HS := Lib.hid hS; have Hfin := Lib.hid (HB.out.1.trans (hon.to_below (fun x hx => by omega) (by have := HB.out.2.2.2.2.1; omega))); clear hbk hon hS; cases hok : okM ms)
    · obtain rfl : tb = false := by rw [← Htb.out]; unfold totB; rw [hok, Bool.and_false]
      obtain rfl : tv = 0 := by rw [← Htv.out]; unfold totV; rw [Htb.out]; rfl
      go_ret2
      exact ⟨rfl, by rw [HB.out.2.2.2.2.2]; exact Hfin.out⟩
    · obtain rfl := HS.out hok
      obtain rfl : tb = true := by rw [← Htb.out]; unfold totB; rw [hok, Hn.out, decide_eq_true h12]; rfl
      obtain rfl : tv = sumM ms := by rw [← Htv.out]; unfold totV; rw [Htb.out, if_pos rfl]
      go_ret2
      exact ⟨rfl, by rw [HB.out.2.2.2.2.2]; exact Hfin.out⟩
  · have n12' : 12 < (n : Int) := by omega
    have h1 : tb = false := by rw [← Htb.out]; unfold totB; rw [Hn.out, decide_eq_false h12]; rfl
    have h2 : tv = 0 := by rw [← Htv.out]; unfold totV; rw [Htb.out, h1]; rfl
    subst h1 h2
    go_wp2_with fail
    go_ret2
    exact ⟨rfl, by rw [HB.out.2.2.2.2.2]; exact HB.out.1⟩
end Go.Proofs.Ytggmihnhdojepaa
