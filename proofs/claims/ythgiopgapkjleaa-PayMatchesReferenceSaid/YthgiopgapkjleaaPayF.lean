/- pay.New: the walk. -/
import Derived.Test.YthgiopgapkjleaaPayE
namespace Go.Proofs.Ythgiopgapkjleaa
open Go.RowKit
set_option linter.unusedVariables false
set_option linter.unusedSimpArgs false
attribute [local go_sem] ext_cell ext_frozen lt_ext ext_drew

abbrev tMean : Ty Mn := tPair tStr tInt
theorem pick_mean {w : World} {B : Nat} {A : Option Addr} {ms : List Mn} (h : Elems tMean w B A ms) {k : Nat} (hk : k < ms.length) :
    ∃ b off nm a, A = some ⟨b, off, none⟩ ∧ b < B ∧ Hid (ms[k]? = some (nm, a)) ∧ w.cell? ⟨b, off + k * 2, none⟩ = some (.string nm) ∧ w.cell? ⟨b, off + k * 2 + 1, none⟩ = some (.int .i64 a) ∧ nm.size ≤ maxLen ∧ fits a := by
  obtain ⟨b, off, ⟨nm, a⟩, cs, hA, hb, _, hx, _, ⟨c1, c2, rfl, ⟨rfl, h1⟩, ⟨rfl, h2⟩⟩, hc⟩ := h.pick hk
  exact ⟨b, off, nm, a, hA, hb, hx, hc 0 _ rfl, hc 1 _ rfl, h1, h2⟩

def MeansSeen (w : World) (qb mb : Nat) (ms : List Mn) (e : Ending) (w' : World) : Prop :=
  ∃ (i S : Int), e = .returned (.int .i64 i) ∧ Bk w' qb #[.int .i64 S] 3 ∧ Only (fun g => g = qb ∨ g = mb) w w' ∧ (okM ms = true → i = -1 ∧ S = sumM ms) ∧ (okM ms = false → 0 ≤ i)
def MeansBad (w : World) (qb mb : Nat) (ms : List Mn) (e : Ending) (w' : World) : Prop :=
  ∃ S : Int, e = .returned (.bool (!okM ms)) ∧ Bk w' qb #[.int .i64 S] 3 ∧ Only (fun g => g = qb ∨ g = mb) w w' ∧ (okM ms = true → S = sumM ms)

set_option maxHeartbeats 1000000 in
theorem index_means (A : Option Addr) (ms : List Mn) (cap : Nat) (w : World) (B sb qb mb : Nat) (h : Elems tMean w B A ms) (hB : B ≤ w.heap.size) (hl : ms.length ≤ 12) (hs : Bk w sb #[.map (some mb)] 51) (hq : Bk w qb #[.int .i64 0] 3)
    (hm : MapB litS Try.prog 9 4 w mb 0 (fun _ => none)) (hqB : B ≤ qb) (hmB : B ≤ mb) (hsq : sb ≠ qb) :
    Calls Try.prog 36 #[.slice A ms.length cap, .func (.func 23) #[] #[.pointer (some ⟨sb, 0, none⟩), .pointer (some ⟨qb, 0, none⟩)]] w (MeansSeen w qb mb ms) := by
  have hsm := hm.ne hs
  have HQ := Lib.hid (And.intro hs (And.intro hq hm))
  have hl' : (ms.length : Int) ≤ 12 := by omega
  clear hs hq hm
  go_enter Try.func36, Try.ntmps36
  go_wp2_with fail
  go_loopw [8] (fun i wr => ∃ (k m : Nat), k ≤ ms.length ∧ i = .int .i64 k ∧ okTo ms k ∧ Bk wr qb #[.int .i64 (sumM (ms.take k))] 3 ∧ Bk wr sb #[.map (some mb)] 51 ∧ MapB litS Try.prog 9 4 wr mb m (seenF (ms.take k)) ∧ m ≤ k ∧ Only (fun g => g = qb ∨ g = mb) w wr) (fun i _ => ms.length - (intOf i).toNat)
  case atStart => exact ⟨0, 0, by omega, rfl, fun j hj => by omega, HQ.out.2.1, HQ.out.1, HQ.out.2.2, Nat.le_refl _, Only.refl _ _⟩
  case round =>
    obtain ⟨k, m, hk, rfl, hall, hbk, hbs, hmp, hmk, hon⟩ := hrel
    have hE := h.keep (hon.to_below (B := B) (fun g hg => by omega) hB) (Nat.le_refl _)
    have hs := okTo_sum k hk hall
    obtain ⟨hs1, hs2⟩ := hs
    have HX := Lib.hid (And.intro hall (And.intro hbk (And.intro hbs (And.intro hmp hon))))
    have hBr : B ≤ wr.heap.size := Nat.le_trans hB hon.size
    clear hall hbk hbs hmp hon
    by_cases hlt : k < ms.length
    · obtain ⟨b, off, nm, a, rfl, hb, Hk, c0, c1, f0, f1⟩ := pick_mean hE hlt
      have Hs := Lib.hid (sumM_take Hk.out)
      have bw : b < wr.heap.size := by omega
      clear hE
      go_wp2_with fail
      refine (mean_bad nm a _ _ sb qb mb m _ HX.out.2.2.1 HX.out.2.1 HX.out.2.2.2.1 (by omega) ⟨hs1, by omega⟩ f1 f0).mono ?_
      rintro e w2 ⟨rfl, S', m', hbk, hS', hmp, hm', hon⟩
      rw [seenF_get]
      have hmp2 : MapB litS Try.prog 9 4 w2 mb m' (seenF (ms.take (k + 1))) := by rw [← seenF_put Hk.out]; exact hmp
      have HY := Lib.hid (And.intro hbk (And.intro hS' (And.intro hmp2 (And.intro (HX.out.2.2.1.only hon (by omega)) hon))))
      clear hbk hS' hmp hmp2 hon
      cases hL : badM ms k (nm, a) with
      | false =>
        have HL := Lib.hid hL
        have hL2 : (hasM (ms.take k) nm || !meanB (nm, a)) = false := hL
        rw [hL2]
        clear hL hL2
        go_wp2_with fail
        go_roundw
        case rel =>
          refine ⟨k + 1, m', by omega, by go_num, okTo_step HX.out.1 Hk.out HL.out, ?_, HY.out.2.2.2.1, HY.out.2.2.1, by omega, HX.out.2.2.2.2.trans HY.out.2.2.2.2⟩
          rw [Hs.out, ← HY.out.2.1 (badM_false HL.out).2]
          exact HY.out.1
        case measure => simp [intOf]; omega
      | true =>
        have HL := Lib.hid hL
        have hL2 : (hasM (ms.take k) nm || !meanB (nm, a)) = true := hL
        rw [hL2]
        clear hL hL2
        go_wp2_with fail
        go_ret
        exact ⟨k, S', rfl, HY.out.1, HX.out.2.2.2.2.trans HY.out.2.2.2.2, fun h => absurd ((okM_bad Hk.out HL.out).symm.trans h) (by decide), fun _ => by omega⟩
    · obtain rfl : k = ms.length := by omega
      have Hall := Lib.hid (okM_all HX.out.1)
      go_wp2_with fail
      go_ret
      have := HX.out.2.1
      rw [List.take_length] at this
      exact ⟨-1, _, rfl, this, HX.out.2.2.2.2, fun _ => ⟨rfl, rfl⟩, fun h => absurd (Hall.out.symm.trans h) (by decide)⟩

theorem contains_means (A : Option Addr) (ms : List Mn) (cap n : Nat) (w : World) (B sb qb mb : Nat) (h : Elems tMean w B A ms) (hB : B ≤ w.heap.size) (hn : ms.length = n) (hl : n ≤ 12) (hs : Bk w sb #[.map (some mb)] 51) (hq : Bk w qb #[.int .i64 0] 3)
    (hm : MapB litS Try.prog 9 4 w mb 0 (fun _ => none)) (hqB : B ≤ qb) (hmB : B ≤ mb) (hsq : sb ≠ qb) :
    Calls Try.prog 27 #[.slice A n cap, .func (.func 23) #[] #[.pointer (some ⟨sb, 0, none⟩), .pointer (some ⟨qb, 0, none⟩)]] w (MeansBad w qb mb ms) := by
  subst hn
  have H := Lib.hid (index_means A ms cap w B sb qb mb h hB hl hs hq hm hqB hmB hsq)
  clear h hq hs hm
  go_enter Try.func27, Try.ntmps27
  go_wp2_with fail
  refine H.out.mono ?_
  rintro e w' ⟨i, S, rfl, hbk, hon, h1, h2⟩
  have HX := Lib.hid (And.intro hbk (And.intro hon (And.intro h1 h2)))
  clear hbk hon h1 h2
  cases hr : okM ms with
  | true =>
    obtain ⟨rfl, _⟩ := HX.out.2.2.1 hr
    have Hr := Lib.hid hr
    clear hr
    go_wp2_with fail
    go_ret
    exact ⟨S, ret_bool (by rw [Hr.out]; rfl), HX.out.1, HX.out.2.1, fun h => (HX.out.2.2.1 h).2⟩
  | false =>
    have hi := HX.out.2.2.2 hr
    have Hr := Lib.hid hr
    clear hr
    go_wp2_with fail
    go_ret
    exact ⟨S, ret_bool (by rw [Hr.out]; rfl), HX.out.1, HX.out.2.1, fun h => (HX.out.2.2.1 h).2⟩

def newE (ls : List Ln) (total : Int) (ms : List Mn) (till : Int) : Int :=
  if rightB ls total && decide (0 ≤ till) && decide (till ≤ 1000000000) && decide (ms.length ≤ 12) && okM ms then (if sumM ms = total then 0 else 19) else 1
def startS (total till : Int) : PayS := ⟨0, till, total, 0, 1, 0, fun _ => none⟩
theorem startS_ok {total till : Int} (h0 : 0 ≤ till) (h1 : till ≤ 1000000000) : PayOK (startS total till) := by
  constructor
  all_goals first | exact h0 | exact h1 | (show _ ≤ _; simp [startS]; done) | (intro h; simp [startS] at h; done) | (intro _; exact h0) | (intro x hx; simp [startS] at hx)

/-- How New ends. -/
def NewEnd (w : World) (E total till : Int) (e : Ending) (w' : World) : Prop :=
  Below w.heap.size w w' ∧ ((E = 0 ∧ ∃ pb mb, e = .returned (.tuple #[.pointer (some ⟨pb, 0, none⟩), .int .i64 0]) ∧ PayIs w' pb mb 0 0 (startS total till) ∧ w.heap.size ≤ pb ∧ w.heap.size ≤ mb) ∨ (E ≠ 0 ∧ e = .returned (.tuple #[.pointer none, .int .i64 E])))

theorem hasno (w : World) : (fun _ : ByteArray => (none : Option Bool)) = seenF [] := rfl

set_option maxRecDepth 100000 in
set_option maxHeartbeats 2000000 in
theorem new_any (A : Option Addr) (ls : List Ln) (cap n : Nat) (total : Int) (A2 : Option Addr) (ms : List Mn) (cap2 n2 : Nat) (till : Int) (w : World) (B : Nat) (h : Elems tLine w B A ls) (h2 : Elems tMean w B A2 ms) (hB : B ≤ w.heap.size) (hn : ls.length = n) (hl : n ≤ 60) (hn2 : ms.length = n2) (hl2 : n2 ≤ 9223372036854775807) :
    Calls Try.prog 11 #[.agg #[.slice A n cap, .int .i64 total], .slice A2 n2 cap2, .int .i64 till] w (NewEnd w (newE ls total ms till) total till) := by
  obtain ⟨E, hE⟩ : ∃ v, newE ls total ms till = v := ⟨_, rfl⟩
  rw [hE]
  obtain ⟨r, hr⟩ : ∃ v, rightB ls total = v := ⟨_, rfl⟩
  have hE2 := hE.symm
  unfold newE at hE2
  rw [hr, hn2] at hE2
  have HE := Lib.hid hE2
  have Hr := Lib.hid hr
  have HH := Lib.hid (And.intro h h2)
  have Hn := Lib.hid hn
  have Hn2 := Lib.hid hn2
  clear hE hE2 hr h h2 hn hn2
  have hmm := @run_makeMap Try.prog
  go_enter Try.func11, Try.ntmps11
  go_upto_region 2 with (fail)
  refine forget (fun W => Below w.heap.size w W ∧ Bk W w.heap.size #[.slice A n cap, .int .i64 total] 24 ∧ MapB litS Try.prog 9 4 W (w.heap.size + 1) 0 (fun _ => none) ∧ Bk W (w.heap.size + 2) #[.map (some (w.heap.size + 1))] 51 ∧ Bk W (w.heap.size + 3) #[.int .i64 0] 3 ∧ W.heap.size = w.heap.size + 4) ⟨?_, ?_, ?_, ?_, ?_, ?_⟩ ?_
  · (repeat (first | with_reducible exact Below.refl _ _ | with_reducible assumption | with_reducible refine Below.alloc0 ?_ _ | with_reducible refine Below.ext0 ?_ _ | with_reducible refine Below.drew ?_ | with_reducible refine below_drewN ?_ _ | (with_reducible refine Below.setCell (hp := ?hp) ?_ _; case hp => (first | (simp; done) | (simp; omega)))))
  · exact ((((Bk.new w _ _).alloc _).alloc _).alloc _)
  · have h0 := MapB.new litS Try.prog 9 4 (w.alloc (.cells #[.slice A n cap, .int .i64 total] 24))
    have e0 : (w.alloc (.cells #[.slice A n cap, .int .i64 total] 24)).heap.size = w.heap.size + 1 := by simp
    rw [e0] at h0
    exact (h0.below (below_self _ _)).below (below_self _ _)
  · exact (bk_new_at _ _ _ _ (by simp)).alloc _
  · exact bk_new_at _ _ _ _ (by simp)
  · simp
  rintro W ⟨hw, b0, mp, b2, b3, hsz⟩
  generalize hg : w.heap.size = g at *
  have c0 : W.cell? ⟨g, 0, none⟩ = some (.slice A n cap) := b0.cell 0
  have c1 : W.cell? ⟨g, 1, none⟩ = some (.int .i64 total) := b0.cell 1
  have lg := b0.lt
  have HB := Lib.hid (And.intro hw (And.intro b0 (And.intro mp (And.intro b2 (And.intro b3 (And.intro hsz hg))))))
  have HEl := Lib.hid (And.intro (HH.out.1.keep (hw.mono hB) (Nat.le_refl _)) (HH.out.2.keep (hw.mono hB) (Nat.le_refl _)))
  have hBW : B ≤ W.heap.size := by omega
  clear hw b0 mp b2 b3 hsz hg HH
  go_wp2_with fail
  refine (right_is r A ls cap n total W B HEl.out.1 hBW Hn.out hl Hr).mono ?_
  rintro e w2 ⟨rfl, hb⟩
  have HC := Lib.hid hb
  have hfin : Hid (Below g w w2) := HB.out.1.trans (hb.mono (by omega))
  have b3' : Bk w2 (g + 3) #[.int .i64 0] 3 := HB.out.2.2.2.2.1.below hb
  have b2' : Bk w2 (g + 2) #[.map (some (g + 1))] 51 := HB.out.2.2.2.1.below hb
  have mp' := HB.out.2.2.1.below hb
  have b0' := HB.out.2.1.below hb
  have hW2 : B ≤ w2.heap.size := Nat.le_trans hBW hb.size
  have hg2 : g + 4 ≤ w2.heap.size := by have := hb.size; have := HB.out.2.2.2.2.2.1; omega
  have H3 := Lib.hid (And.intro b0' (And.intro b2' (And.intro b3' mp')))
  have HE3 := Lib.hid (HEl.out.2.keep (hb.mono hBW) (Nat.le_refl _))
  clear hb b3' b2' mp' b0' HEl
  by_cases hgood : r = true ∧ 0 ≤ till ∧ till ≤ 1000000000 ∧ n2 ≤ 12
  · obtain ⟨rfl, t0, t1, n12⟩ := hgood
    have n12' : (n2 : Int) ≤ 12 := by omega
    go_wp2_with fail
    refine (contains_means A2 ms cap2 n2 w2 B (g + 2) (g + 3) (g + 1) HE3.out hW2 Hn2.out n12 H3.out.2.1 H3.out.2.2.1 H3.out.2.2.2 (by omega) (by omega) (by omega)).mono ?_
    rintro e w3 ⟨S, rfl, hbk, hon, hS⟩
    have cq : w3.cell? ⟨g + 3, 0, none⟩ = some (.int .i64 S) := hbk.cell 0
    have lq := hbk.lt
    have b0' := H3.out.1.only hon (by omega)
    have c0' : w3.cell? ⟨g, 0, none⟩ = some (.slice A n cap) := b0'.cell 0
    have c1' : w3.cell? ⟨g, 1, none⟩ = some (.int .i64 total) := b0'.cell 1
    have hfin3 : Hid (Below g w w3) := hfin.out.trans (hon.to_below (fun x hx => by omega) (by omega))
    have HS := Lib.hid hS
    have Hb := Lib.hid b0'
    clear hbk hon hS b0'
    cases hok : okM ms with
    | false =>
      have hE1 : E = 1 := by rw [HE.out, hok]; simp
      subst hE1
      clear hok
      go_wp2_with fail
      go_ret2
      exact ⟨by rw [HB.out.2.2.2.2.2.2]; exact hfin3.out, .inr ⟨by decide, rfl⟩⟩
    | true =>
      obtain rfl := HS.out hok
      have hE1 : E = if sumM ms = total then 0 else 19 := by rw [HE.out, hok]; simp [t0, t1, n12]
      have hs := Lib.hid hE1
      clear hok hE1 HS HE
      have htot0 : 0 ≤ total ∧ total ≤ 1000000000 := by
        have h9 := Hr.out
        simp only [rightB, Bool.and_eq_true, decide_eq_true_eq] at h9
        have := sumOf_bd ls h9.1.1.2
        have e1 := h9.1.2
        have e2 := h9.2
        omega
      have htot := Lib.hid htot0
      clear htot0
      generalize sumM ms = S at *
      by_cases hst : S = total
      · subst hst
        obtain rfl : E = 0 := by rw [hs.out, if_pos rfl]
        go_wp2_with fail
        go_ret2
        refine ⟨?_, .inl ⟨rfl, w3.heap.size + 1, w3.heap.size, rfl, ?_, ?_, ?_⟩⟩
        · rw [HB.out.2.2.2.2.2.2]
          exact ((hfin3.out.alloc (by omega) _).alloc (by simp; omega) _)
        · refine ⟨?_, ?_, Nat.le_refl _, startS_ok t0 t1, htot.out, ⟨Int.le_refl 0, by show (0:Int) ≤ 1000000000 * ((0:Nat):Int); omega⟩⟩
          · exact bk_new_at _ _ _ _ (by simp)
          · exact (MapB.new litI Try.prog 3 4 w3).below (below_self _ _)
        · rw [HB.out.2.2.2.2.2.2]; omega
        · rw [HB.out.2.2.2.2.2.2]; omega
      · obtain rfl : E = 19 := by rw [hs.out, if_neg hst]
        go_wp2_with fail
        go_ret2
        exact ⟨by rw [HB.out.2.2.2.2.2.2]; exact hfin3.out, .inr ⟨by decide, rfl⟩⟩
  · have hE1 : E = 1 := by
      rw [HE.out, if_neg]
      intro h
      simp only [Bool.and_eq_true, decide_eq_true_eq] at h
      exact hgood ⟨h.1.1.1.1, h.1.1.1.2, h.1.1.2, h.1.2⟩
    subst hE1
    have hno : r = false ∨ (r = true ∧ till < 0) ∨ (r = true ∧ 0 ≤ till ∧ 1000000000 < till) ∨ (r = true ∧ 0 ≤ till ∧ till ≤ 1000000000 ∧ 12 < (n2 : Int)) := by
      cases r
      · exact .inl rfl
      · right
        by_cases h1 : till < 0
        · exact .inl ⟨rfl, h1⟩
        · by_cases h3 : 1000000000 < till
          · exact .inr (.inl ⟨rfl, by omega, h3⟩)
          · exact .inr (.inr ⟨rfl, by omega, by omega, by have : ¬ n2 ≤ 12 := fun h => hgood ⟨rfl, by omega, by omega, h⟩; omega⟩)
    clear hgood HE
    rcases hno with rfl | ⟨rfl, h1⟩ | ⟨rfl, h1, h3⟩ | ⟨rfl, h1, h3, h4⟩
    all_goals
      go_wp2_with fail
      go_ret2
      exact ⟨by rw [HB.out.2.2.2.2.2.2]; exact hfin.out, .inr ⟨by decide, rfl⟩⟩
end Go.Proofs.Ythgiopgapkjleaa
