/- PayMatchesReference: for every bill, means, time and operations, all results agree with the reference implementation (at most 40 lines, 20 means, 150 operations, as the law itself asks); no condition. -/
import Derived.Test.YthgiopgapkjleaaPayO
import Derived.Test.YthgiopgapkjleaaMid
namespace Go.Proofs.Ythgiopgapkjleaa
open Go.RowKit Go.ChangeAt
set_option linter.unusedVariables false
set_option linter.unusedSimpArgs false
attribute [local go_sem] ext_cell ext_frozen lt_ext ext_drew

abbrev tBill : Ty (List Ln × Int) := tPair (tSlice tLine) tInt
theorem opensLine : Opens Try.prog 65 tLine := opens_struct Try.underlying65 (by kernel_rfl) (.cons rfl opensI (.one rfl opensI))
theorem opensLines : Opens Try.prog 22 (tSlice tLine) := opens_slice Try.underlying22 (by kernel_rfl) (by decide) opensLine
theorem opensBill : Opens Try.prog 24 tBill := opens_struct Try.underlying24 (by kernel_rfl) (.cons rfl opensLines (.one rfl opensI))
theorem opensS : Opens Try.prog 9 tStr := opens_str Try.underlying9 (by kernel_rfl)
theorem opensMean : Opens Try.prog 47 tMean := opens_struct Try.underlying47 (by kernel_rfl) (.cons rfl opensS (.one rfl opensI))
theorem opensMeans : Opens Try.prog 25 (tSlice tMean) := opens_slice Try.underlying25 (by kernel_rfl) (by decide) opensMean
theorem bill_of {w : World} {B : Nat} {cs : Array Value} {x : List Ln × Int} (h : tBill.rd w B cs.toList x) : ∃ A cap, cs = #[.slice A x.1.length cap, .int .i64 x.2] ∧ x.1.length ≤ cap ∧ cap ≤ maxLen ∧ Elems tLine w B A x.1 ∧ fits x.2 := by
  obtain ⟨c1, r1, e1, ⟨A, cap, rfl, h1, h2, h3⟩, ⟨rfl, h4⟩⟩ := h
  refine ⟨A, cap, ?_, h1, h2, h3, h4⟩
  cases cs
  simp only at e1
  rw [e1]
  rfl

def SmallEnd (w : World) (n n2 : Nat) (e : Ending) (w' : World) : Prop := ∃ r, e = .returned (.bool r) ∧ Below w.heap.size w w' ∧ (r = true → n ≤ 40 ∧ n2 ≤ 20)

set_option maxHeartbeats 1000000 in
theorem small_any (A : Option Addr) (n cap : Nat) (total : Int) (A2 : Option Addr) (ms : List Mn) (cap2 : Nat) (w : World) (B : Nat) (h2 : Elems tMean w B A2 ms) (hB : B ≤ w.heap.size) (hn : n ≤ 9223372036854775807) (hl2 : ms.length ≤ 9223372036854775807) :
    Calls Try.prog 10 #[.agg #[.slice A n cap, .int .i64 total], .slice A2 ms.length cap2] w (SmallEnd w n ms.length) := by
  have HH := Lib.hid h2
  clear h2
  go_enter Try.func10, Try.ntmps10
  go_wp2_with fail
  refine forget (fun W => Below w.heap.size w W ∧ Bk W w.heap.size #[.slice A n cap, .int .i64 total] 24) ⟨?_, ?_⟩ ?_
  · (repeat (first | with_reducible exact Below.refl _ _ | with_reducible assumption | with_reducible refine Below.alloc0 ?_ _ | with_reducible refine Below.ext0 ?_ _ | with_reducible refine Below.drew ?_ | with_reducible refine below_drewN ?_ _ | (with_reducible refine Below.setCell (hp := ?hp) ?_ _; case hp => (first | (simp; done) | (simp; omega)))))
  · exact Bk.new w _ _
  rintro W ⟨hw, bD⟩
  have c0 : W.cell? ⟨w.heap.size, 0, none⟩ = some (.slice A n cap) := bD.cell 0
  have lg := bD.lt
  have hE := HH.out.keep (hw.mono hB) (Nat.le_refl _)
  have hBW : B ≤ W.heap.size := Nat.le_trans hB hw.size
  have HW := Lib.hid hw
  clear hw bD HH
  by_cases h20 : ms.length ≤ 20
  · have h20' : (ms.length : Int) ≤ 20 := by omega
    go_loop [5] (fun i => ∃ k : Nat, k ≤ ms.length ∧ i = .int .i64 k) (fun i => ms.length - (intOf i).toNat)
    case atStart => exact ⟨0, by omega, rfl⟩
    case round =>
      obtain ⟨k, hk, rfl⟩ := hrel
      by_cases hlt : k < ms.length
      · obtain ⟨b, off, nm, a, rfl, hb, Hk, c1, c2, f0, f1⟩ := pick_mean hE hlt
        have bw : b < W.heap.size := by omega
        unfold maxLen at f0
        by_cases h100 : nm.size ≤ 100
        · have h100' : (nm.size : Int) ≤ 100 := by omega
          go_wp2_with fail
          go_round
          case rel => exact ⟨k + 1, by omega, by go_num⟩
          case measure => simp [intOf]; omega
        · have h100' : 100 < (nm.size : Int) := by omega
          go_wp2_with fail
          go_ret
          exact ⟨false, rfl, HW.out, fun h => by cases h⟩
      · obtain rfl : k = ms.length := by omega
        by_cases h40 : n ≤ 40
        · have h40' : (n : Int) ≤ 40 := by omega
          go_wp2_with fail
          go_ret
          exact ⟨true, ret_bool (by simp [h20']), HW.out, fun _ => ⟨h40, h20⟩⟩
        · have h40' : 40 < (n : Int) := by omega
          go_wp2_with fail
          go_ret
          exact ⟨false, rfl, HW.out, fun h => by cases h⟩
  · have h20' : 20 < (ms.length : Int) := by omega
    go_loop [5] (fun i => i = .int .i64 0) (fun i => 0)
    case atStart => rfl
    case round =>
      obtain rfl := hrel
      have hpos : (0 : Int) < (ms.length : Int) := by omega
      by_cases h40 : n ≤ 40
      · have h40' : (n : Int) ≤ 40 := by omega
        go_wp2_with fail
        go_ret
        exact ⟨false, ret_bool (by simp; omega), HW.out, fun h => by cases h⟩
      · have h40' : 40 < (n : Int) := by omega
        go_wp2_with fail
        go_ret
        exact ⟨false, rfl, HW.out, fun h => by cases h⟩

theorem step_nil (w : World) (a : Int) (y : Bool) (now : Int) : Calls Try.prog 13 #[.pointer none, .agg #[.int .i64 a, .bool y, .int .i64 now]] w fun e w' => e = .returned (.tuple #[.int .i64 0, .int .i64 1]) ∧ Below w.heap.size w w' := by
  by_cases h0 : a = 0
  · subst h0
    go_enter Try.func13, Try.ntmps13
    go_wp2_with (go_at_call 21; refine (ask_nil _ _).mono ?_; rintro e w' ⟨rfl, rfl⟩)
    go_ret2
    exact ⟨rfl, below_self _ _⟩
  · go_enter Try.func13, Try.ntmps13
    go_wp2_with (go_at_call 22; refine (answer_nil _ _ _ _).mono ?_; rintro e w' ⟨rfl, rfl⟩)
    go_ret2
    exact ⟨rfl, below_self _ _⟩

theorem only_under {base : Nat} {w w' : World} (hb : Below base w w') : Only (fun g => base ≤ g) w w' := ⟨hb.os, hb.tape, hb.output, hb.size, fun k _ hn => hb.block k (by omega)⟩
theorem PayIs.drewN {w : World} {pb mb m K : Nat} {s : PayS} (h : PayIs w pb mb m K s) (n : Nat) : PayIs (w.drewN n) pb mb m K s := h.below (below_drewN (Below.refl _ _) n)

/-- The two payments side by side. -/
structure Pair (w wr : World) (pb mb m K rb base : Nat) (s : PayS) (r : RefS) (A1 : Option Addr) (c1 : Nat) (A2 : Option Addr) (c2 : Nat) : Prop where
  pay : PayIs wr pb mb m K s
  ref : RefIs wr rb base K r A1 c1 A2 c2
  sim : SimP s r
  low : Below w.heap.size w wr
theorem Pair.drewN {w wr : World} {pb mb m K rb base : Nat} {s : PayS} {r : RefS} {A1 : Option Addr} {c1 : Nat} {A2 : Option Addr} {c2 : Nat} (h : Pair w wr pb mb m K rb base s r A1 c1 A2 c2) (n : Nat) : Pair w (wr.drewN n) pb mb m K rb base s r A1 c1 A2 c2 :=
  ⟨h.pay.drewN n, h.ref.drew n, h.sim, below_drewN h.low n⟩

theorem askR_is {w : World} {rb base K : Nat} {r : RefS} {A1 : Option Addr} {c1 : Nat} {A2 : Option Addr} {c2 : Nat} {now : Int} {r' : RefS} {v er : Int} (h : RefIs w rb base K r A1 c1 A2 c2) (hK : K ≤ 1000) (fn : fits now) (he : Hid (askR r now = (r', v, er))) :
    Calls Try.prog 14 #[.pointer (some ⟨rb, 0, none⟩), .int .i64 now] w fun e w' => e = .returned (.tuple #[.int .i64 v, .int .i64 er]) ∧ RefAt w' rb base K r' ∧ Below base w w' := by
  have := rask_any w rb base K r A1 c1 A2 c2 now h hK fn
  rw [he.out] at this
  exact this
theorem ansR_is {w : World} {rb base K : Nat} {r : RefS} {A1 : Option Addr} {c1 : Nat} {A2 : Option Addr} {c2 : Nat} {a : Int} {y : Bool} {now : Int} {r' : RefS} {v er : Int} (h : RefIs w rb base K r A1 c1 A2 c2) (hK : K < 1000) (fa : fits a) (fn : fits now) (he : Hid (ansR r a y now = (r', v, er))) :
    Calls Try.prog 15 #[.pointer (some ⟨rb, 0, none⟩), .int .i64 a, .bool y, .int .i64 now] w fun e w' => e = .returned (.tuple #[.int .i64 v, .int .i64 er]) ∧ RefAt w' rb base (K + 1) r' ∧ Below base w w' := by
  have := ranswer_any w rb base K r A1 c1 A2 c2 a y now h hK fa fn
  rw [he.out] at this
  exact this

set_option maxRecDepth 100000 in
set_option maxHeartbeats 8000000 in
theorem pmatches_walk (A : Option Addr) (ls : List Ln) (cap : Nat) (total : Int) (A2 : Option Addr) (ms : List Mn) (cap2 : Nat) (till : Int) (A3 : Option Addr) (os : List OpS) (cap3 : Nat) (w : World) (h : Elems tLine w w.heap.size A ls) (h2 : Elems tMean w w.heap.size A2 ms) (h3 : Elems tOp w w.heap.size A3 os)
    (hm : ls.length ≤ 9223372036854775807) (hm2 : ms.length ≤ 9223372036854775807) (hm3 : os.length ≤ 9223372036854775807) (ht : fits total) :
    Calls Try.prog 3 #[.agg #[.slice A ls.length cap, .int .i64 total], .slice A2 ms.length cap2, .int .i64 till, .slice A3 os.length cap3] w fun e w' => e = .returned (.bool true) ∧ Below w.heap.size w w' := by
  have HH := Lib.hid (And.intro h (And.intro h2 h3))
  have Ht := Lib.hid ht
  clear h h2 h3 ht
  go_enter Try.func3, Try.ntmps3
  go_wp2_with fail
  refine (head_any _).mono ?_
  rintro e w1 ⟨rfl, hb⟩
  have hbk := (Bk.new w #[.slice A ls.length cap, .int .i64 total] 24).below hb
  have HB1 := Lib.hid (And.intro (Below.trans0 (below_self w _) hb) hbk)
  have c0 := hbk.cell
  have l0 := hbk.lt
  clear hb hbk
  go_wp2_with fail
  refine (small_any A ls.length cap total A2 ms cap2 w1 w.heap.size (HH.out.2.1.keep HB1.out.1 (Nat.le_refl _)) HB1.out.1.size hm hm2).mono ?_
  rintro e w2 ⟨r0, rfl, hb, hsm⟩
  have hbk := HB1.out.2.below hb
  have HB2 := Lib.hid (And.intro (Below.trans0 HB1.out.1 hb) hbk)
  clear c0 l0 HB1 hb
  have c0 := hbk.cell
  have l0 := hbk.lt
  clear hbk
  cases r0
  · go_wp2_with fail
    go_ret
    exact ⟨rfl, HB2.out.1⟩
  · obtain ⟨s1, s2⟩ := hsm rfl
    by_cases hlen : os.length ≤ 150
    · have hlen' : (os.length : Int) ≤ 150 := by omega
      obtain ⟨E, hE⟩ : ∃ v, newE ls total ms till = v := ⟨_, rfl⟩
      have HE := Lib.hid hE
      clear hE
      go_wp2_with fail
      refine (new_any A ls cap ls.length total A2 ms cap2 ms.length till w2 w.heap.size (HH.out.1.keep HB2.out.1 (Nat.le_refl _)) (HH.out.2.1.keep HB2.out.1 (Nat.le_refl _)) HB2.out.1.size rfl (by omega) rfl hm2).mono ?_
      rintro e w3 ⟨hb, hend⟩
      have hbk := HB2.out.2.below hb
      have HB3 := Lib.hid (And.intro (Below.trans0 HB2.out.1 hb) hbk)
      clear c0 l0 hb
      have c0 := hbk.cell
      have l0 := hbk.lt
      clear hbk
      rw [HE.out] at hend
      by_cases hE0 : E = 0
      · subst hE0
        have hend2 : ∃ pb mb, e = .returned (.tuple #[.pointer (some ⟨pb, 0, none⟩), .int .i64 0]) ∧ PayIs w3 pb mb 0 0 (startS total till) ∧ w2.heap.size ≤ pb ∧ w2.heap.size ≤ mb := by
          rcases hend with ⟨_, h⟩ | ⟨h, _⟩
          · exact h
          · exact absurd rfl h
        obtain ⟨pb, mb, rfl, hp, p1, p2⟩ := hend2
        have n1 : w.heap.size ≤ pb := Nat.le_trans HB2.out.1.size p1
        have n2 : w.heap.size ≤ mb := Nat.le_trans HB2.out.1.size p2
        have d1 : pb < w3.heap.size := hp.bk.lt
        have d2 : mb < w3.heap.size := hp.map.lt
        have ht0 := hp.ok.till0
        have HP := Lib.hid hp
        clear hp p1 p2 HB2 hend
        go_wp2_with fail
        refine (rnew_any A ls cap ls.length total A2 ms cap2 ms.length till w3 w.heap.size (HH.out.1.keep HB3.out.1 (Nat.le_refl _)) (HH.out.2.1.keep HB3.out.1 (Nat.le_refl _)) HB3.out.1.size rfl (by omega) Ht.out rfl hm2).mono ?_
        rintro e w4 ⟨hb, hend⟩
        rw [HE.out] at hend
        have hend2 : ∃ rb, e = .returned (.tuple #[.pointer (some ⟨rb, 0, none⟩), .int .i64 0]) ∧ RefAt w4 rb w3.heap.size 0 (startR total till) := by
          rcases hend with ⟨_, h⟩ | ⟨h, _⟩
          · exact h
          · exact absurd rfl h
        obtain ⟨rb, rfl, B1, k1, B2, k2, hr⟩ := hend2
        have hw3 : w.heap.size ≤ w3.heap.size := HB3.out.1.size
        have HR := Lib.hid (Pair.mk (HP.out.below hb) hr (sim_start ht0) (Below.trans0 HB3.out.1 hb))
        clear c0 l0 hb hend hr HP HB3 ht0
        generalize w3.heap.size = base at *
        go_wp2_with fail
        go_loopw [14] (fun i wr => ∃ (k m : Nat) (s : PayS) (r : RefS) (B1 : Option Addr) (k1 : Nat) (B2 : Option Addr) (k2 : Nat), k ≤ os.length ∧ i = .int .i64 k ∧ Pair w wr pb mb m k rb base s r B1 k1 B2 k2) (fun i _ => os.length - (intOf i).toNat)
        case atStart => exact ⟨0, 0, _, _, _, _, _, _, by omega, rfl, HR.out⟩
        case round =>
          obtain ⟨k, m, s, r, C1, j1, C2, j2, hk, rfl, hr⟩ := hrel
          have hEl := HH.out.2.2.keep hr.low (Nat.le_refl _)
          have hbr : w.heap.size ≤ wr.heap.size := hr.low.size
          have HX := Lib.hid hr
          clear hr HR
          by_cases hlt : k < os.length
          · obtain ⟨b, off, a, y, n, rfl, hb, Hk, c0, c1, cn, f0, f1⟩ := pick_op hEl hlt
            have bw : b < wr.heap.size := by omega
            have F0 := Lib.hid f0
            have F1 := Lib.hid f1
            clear hEl f0 f1
            obtain ⟨s', v, er, hs'⟩ : ∃ s' v er, stepS s (a, y, n) = (s', v, er) := ⟨_, _, _, rfl⟩
            obtain ⟨r', hr'⟩ : ∃ r', (stepR r (a, y, n)).1 = r' := ⟨_, rfl⟩
            have hsim := sim_step HX.out.sim HX.out.pay.ok (a, y, n)
            rw [hs', hr'] at hsim
            have hrr : stepR r (a, y, n) = (r', v, er) := by
              rw [← hr']
              exact Prod.ext rfl hsim.1.symm
            have Hs' := Lib.hid hs'
            have Hrr := Lib.hid hrr
            have Hsim := Lib.hid hsim.2
            obtain ⟨st', hst'⟩ : ∃ v, s'.state = v := ⟨_, rfl⟩
            obtain ⟨ow', how'⟩ : ∃ v, s'.owed = v := ⟨_, rfl⟩
            have hst2 : stateR r' = st' := by rw [← hst']; exact hsim.2.state.symm
            have how2 : owedR r' = ow' := by rw [← how']; exact hsim.2.owed.symm
            have Hst' := Lib.hid hst'
            have How' := Lib.hid how'
            have Hst2 := Lib.hid hst2
            have How2 := Lib.hid how2
            clear hs' hr' hsim hrr hst' how' hst2 how2
            go_wp2_with fail
            refine (step_is wr pb mb m k s a y n s' v er HX.out.pay (by omega) F0.out Hs').mono ?_
            rintro e w5 ⟨rfl, m', hp, ho⟩
            have hl := HX.out.low.trans (ho.to_below (B := w.heap.size) (fun g hg => by omega) HX.out.low.size)
            have HY := Lib.hid (And.intro hp (And.intro (HX.out.ref.only ho (fun g hg => by omega)) hl))
            have hbr5 : w.heap.size ≤ w5.heap.size := hl.size
            have hEl := HH.out.2.2.keep hl (Nat.le_refl _)
            obtain ⟨b', off', a', y', n', hA, _, Hk', d0, d9, d8, _⟩ := pick_op hEl hlt
            have hsame := Hk.out.symm.trans Hk'.out
            simp only [Option.some.injEq, Prod.mk.injEq, Addr.mk.injEq, and_true] at hsame hA
            obtain ⟨rfl, rfl⟩ := hA
            obtain ⟨rfl, rfl, rfl⟩ := hsame
            have bw5 : b < w5.heap.size := by omega
            clear hp ho hl hEl Hk' c0 c1 cn HX
            by_cases h0 : a = 0
            · have hask : askR r n = (r', v, er) := by
                have := Hrr.out; unfold stepR at this; rw [if_pos h0] at this; exact this
              have Hask := Lib.hid hask
              clear hask Hrr
              subst h0
              go_wp2_with fail
              refine (askR_is HY.out.2.1 (by omega) F1.out Hask).mono ?_
              rintro e w6 ⟨rfl, ⟨D1, q1, D2, q2, hr6⟩, hb6⟩
              have HZ := Lib.hid (Pair.mk (HY.out.1.only (only_under hb6) (by omega) (by omega)) hr6.more Hsim.out (HY.out.2.2.trans (hb6.mono (by omega))))
              clear hr6 hb6 HY
              go_wp2_with (first
                | (go_at_call 16; refine (state_is _ pb mb _ _ s' _ (by first | exact HZ.out.pay | exact (HZ.out.drewN _).pay) Hst'.out).mono ?_; rintro e w' ⟨rfl, rfl⟩)
                | (go_at_call 17; refine (rstate_is _ _ _ _ _ r' _ _ _ _ (by first | exact HZ.out.ref | exact (HZ.out.drewN _).ref) (by omega) Hst2).mono ?_; rintro e w' ⟨rfl, n9, rfl⟩)
                | (go_at_call 18; refine (owed_is _ pb mb _ _ s' _ (by first | exact HZ.out.pay | exact (HZ.out.drewN _).pay) How'.out).mono ?_; rintro e w' ⟨rfl, rfl⟩)
                | (go_at_call 19; refine (rowed_is _ _ _ _ _ r' _ _ _ _ (by first | exact HZ.out.ref | exact (HZ.out.drewN _).ref) (by omega) How2).mono ?_; rintro e w' ⟨rfl, n9, rfl⟩))
              go_roundw
              case rel => exact ⟨k + 1, m', s', r', D1, q1, D2, q2, by omega, by go_num, HZ.out.drewN _⟩
              case measure => simp [intOf]; omega
            · have hans : ansR r a y n = (r', v, er) := by
                have := Hrr.out; unfold stepR at this; rw [if_neg h0] at this; exact this
              have Hans := Lib.hid hans
              clear hans Hrr
              go_wp2_with fail
              refine wp_region_mid 16 _ (by kernel_rfl) (by kernel_rfl) rfl rfl ?_
              simp only [List.take_succ_cons, List.take_zero]
              repeat (go_big_quiet_step (fail))
              refine wpQuiet_nil ?_
              go_simp
              refine (ansR_is (HY.out.2.1.below ((Below.refl _ _).drew)) (by omega) F0.out F1.out Hans).mono ?_
              rintro e w6 ⟨rfl, ⟨D1, q1, D2, q2, hr6⟩, hb6⟩
              have HZ := Lib.hid (Pair.mk ((HY.out.1.below ((Below.refl _ _).drew)).only (only_under hb6) (by omega) (by omega)) hr6 Hsim.out ((HY.out.2.2.drew).trans (hb6.mono (by omega))))
              clear hr6 hb6 HY
              simp only [List.drop_succ_cons, List.drop_zero]
              repeat (go_big_quiet_step (fail))
              refine wpQuiet_nil ?_
              go_wp2_with (first
                | (go_at_call 16; refine (state_is _ pb mb _ _ s' _ (by first | exact HZ.out.pay | exact (HZ.out.drewN _).pay) Hst'.out).mono ?_; rintro e w' ⟨rfl, rfl⟩)
                | (go_at_call 17; refine (rstate_is _ _ _ _ _ r' _ _ _ _ (by first | exact HZ.out.ref | exact (HZ.out.drewN _).ref) (by omega) Hst2).mono ?_; rintro e w' ⟨rfl, n9, rfl⟩)
                | (go_at_call 18; refine (owed_is _ pb mb _ _ s' _ (by first | exact HZ.out.pay | exact (HZ.out.drewN _).pay) How'.out).mono ?_; rintro e w' ⟨rfl, rfl⟩)
                | (go_at_call 19; refine (rowed_is _ _ _ _ _ r' _ _ _ _ (by first | exact HZ.out.ref | exact (HZ.out.drewN _).ref) (by omega) How2).mono ?_; rintro e w' ⟨rfl, n9, rfl⟩))
              go_roundw
              case rel => exact ⟨k + 1, m', s', r', D1, q1, D2, q2, by omega, by go_num, HZ.out.drewN _⟩
              case measure => simp [intOf]; omega
          · have hst2 : stateR r = s.state := HX.out.sim.state.symm
            have how2 : owedR r = s.owed := HX.out.sim.owed.symm
            have Hst2 := Lib.hid hst2
            have How2 := Lib.hid how2
            clear hst2 how2
            go_wp2_with (first
              | (go_at_call 16; refine (state_is _ pb mb _ _ s _ (by first | exact HX.out.pay | exact (HX.out.drewN _).pay) rfl).mono ?_; rintro e w' ⟨rfl, rfl⟩)
              | (go_at_call 17; refine (rstate_is _ _ _ _ _ r _ _ _ _ (by first | exact HX.out.ref | exact (HX.out.drewN _).ref) (by omega) Hst2).mono ?_; rintro e w' ⟨rfl, n9, rfl⟩)
              | (go_at_call 18; refine (owed_is _ pb mb _ _ s _ (by first | exact HX.out.pay | exact (HX.out.drewN _).pay) rfl).mono ?_; rintro e w' ⟨rfl, rfl⟩)
              | (go_at_call 19; refine (rowed_is _ _ _ _ _ r _ _ _ _ (by first | exact HX.out.ref | exact (HX.out.drewN _).ref) (by omega) How2).mono ?_; rintro e w' ⟨rfl, n9, rfl⟩))
            go_ret
            exact ⟨ret_bool (by simp), below_drewN HX.out.low _⟩
      · have hend2 : e = .returned (.tuple #[.pointer none, .int .i64 E]) := by
          rcases hend with ⟨h, _⟩ | ⟨_, h⟩
          · exact absurd h hE0
          · exact h
        subst hend2
        clear HB2 hend
        go_wp2_with fail
        refine (rnew_any A ls cap ls.length total A2 ms cap2 ms.length till w3 w.heap.size (HH.out.1.keep HB3.out.1 (Nat.le_refl _)) (HH.out.2.1.keep HB3.out.1 (Nat.le_refl _)) HB3.out.1.size rfl (by omega) Ht.out rfl hm2).mono ?_
        rintro e w4 ⟨hb, hend⟩
        rw [HE.out] at hend
        have hend2 : e = .returned (.tuple #[.pointer none, .int .i64 E]) := by
          rcases hend with ⟨h, _⟩ | ⟨_, h⟩
          · exact absurd h hE0
          · exact h
        subst hend2
        have HB4 := Lib.hid (Below.trans0 HB3.out.1 hb)
        clear c0 l0 hb hend HB3
        go_wp2_with fail
        go_loopw [14] (fun i wr => ∃ (k : Nat), k ≤ os.length ∧ i = .int .i64 k ∧ Below w.heap.size w wr) (fun i _ => os.length - (intOf i).toNat)
        case atStart => exact ⟨0, by omega, rfl, HB4.out⟩
        case round =>
          obtain ⟨k, hk, rfl, hlow⟩ := hrel
          have hEl := HH.out.2.2.keep hlow (Nat.le_refl _)
          have HX := Lib.hid hlow
          have hbr : w.heap.size ≤ wr.heap.size := hlow.size
          clear hlow HB4
          by_cases hlt : k < os.length
          · obtain ⟨b, off, a, y, n, rfl, hb, Hk, c0, c1, cn, f0, f1⟩ := pick_op hEl hlt
            have bw : b < wr.heap.size := by omega
            clear hEl f0 f1
            go_wp2_with fail
            refine (step_nil _ _ _ _).mono ?_
            rintro e w5 ⟨rfl, hb5⟩
            have hl := Below.trans0 HX.out hb5
            have hEl := HH.out.2.2.keep hl (Nat.le_refl _)
            obtain ⟨b', off', a', y', n', hA, _, Hk', d0, d9, d8, _⟩ := pick_op hEl hlt
            have hsame := Hk.out.symm.trans Hk'.out
            simp only [Option.some.injEq, Prod.mk.injEq, Addr.mk.injEq, and_true] at hsame hA
            obtain ⟨rfl, rfl⟩ := hA
            obtain ⟨rfl, rfl, rfl⟩ := hsame
            have bw5 : b < w5.heap.size := by have := hl.size; omega
            have HL := Lib.hid hl
            clear hl hb5 hEl Hk' c0 c1 cn HX
            by_cases h0 : a = 0
            · subst h0
              go_wp2_with (first
                | (go_at_call 14; refine (rask_nil _ _).mono ?_; rintro e w' ⟨rfl, rfl⟩)
                | (go_at_call 16; refine (state_nil _).mono ?_; rintro e w' ⟨rfl, rfl⟩)
                | (go_at_call 17; refine (rstate_nil _).mono ?_; rintro e w' ⟨rfl, rfl⟩)
                | (go_at_call 18; refine (owed_nil _).mono ?_; rintro e w' ⟨rfl, rfl⟩)
                | (go_at_call 19; refine (rowed_nil _).mono ?_; rintro e w' ⟨rfl, rfl⟩))
              go_roundw
              case rel => exact ⟨k + 1, by omega, by go_num, HL.out⟩
              case measure => simp [intOf]; omega
            · go_wp2_with fail
              go_quiet ((go_at_call 15; exact Calls.quiet_of_same ((ranswer_nil _ _ _ _).mono fun e w' ⟨he, hw⟩ => ⟨he, hw.symm⟩)))
              go_wp2_with (first
                | (go_at_call 16; refine (state_nil _).mono ?_; rintro e w' ⟨rfl, rfl⟩)
                | (go_at_call 17; refine (rstate_nil _).mono ?_; rintro e w' ⟨rfl, rfl⟩)
                | (go_at_call 18; refine (owed_nil _).mono ?_; rintro e w' ⟨rfl, rfl⟩)
                | (go_at_call 19; refine (rowed_nil _).mono ?_; rintro e w' ⟨rfl, rfl⟩))
              go_roundw
              case rel => exact ⟨k + 1, by omega, by go_num, below_drewN HL.out _⟩
              case measure => simp [intOf]; omega
          · go_wp2_with (first
              | (go_at_call 16; refine (state_nil _).mono ?_; rintro e w' ⟨rfl, rfl⟩)
              | (go_at_call 17; refine (rstate_nil _).mono ?_; rintro e w' ⟨rfl, rfl⟩)
              | (go_at_call 18; refine (owed_nil _).mono ?_; rintro e w' ⟨rfl, rfl⟩)
              | (go_at_call 19; refine (rowed_nil _).mono ?_; rintro e w' ⟨rfl, rfl⟩))
            go_ret
            exact ⟨rfl, HX.out⟩
    · have hlen' : 150 < (os.length : Int) := by omega
      go_wp2_with fail
      go_ret
      exact ⟨rfl, HB2.out.1⟩

set_option maxRecDepth 100000 in
theorem payMatchesReference_lifted (os : Os) (started : os.Started) (H : Type) (enc : TypeId × Value → H) :
    ReturnsInHanded {} Try.checked os 3 .any (Rows.payMatchesReferenceSpec.pre6 enc Try.prog Try.f3 [] false) (Rows.payMatchesReferenceSpec.post enc Try.prog Try.f3 false true false false) := by
  refine law_lifted (C := Try.checked) own started (by kernel_rfl) Try.func3 rfl (fun ds hds => ?_) (tb := 4) (by kernel_rfl) Try.underlying4 laidOut (fun t ht => ?_)
    (ChangeSpec.witness6 (enc := enc) (C := Try.checked) false ⟨#[], #[.agg #[.slice none 0 0, .int .i64 0], .slice none 0 0, .int .i64 0, .slice none 0 0], []⟩ 8 (by kernel_rfl) (by kernel_rfl) (by kernel_rfl) (by kernel_rfl)) ?_
  · rw [Try.params3] at hds
    match ds, hds with
    | [_, _, _, _], _ => rfl
  · have := List.all_eq_true.1 (show (Try.f3.params.toList.all fun t => Try.prog.readableRec t && decide (t < Try.prog.types.size)) = true by kernel_rfl) t ht
    simp only [Bool.and_eq_true, decide_eq_true_eq] at this
    exact this
  · intro W args g
    rw [Try.params3] at g
    obtain ⟨v0, q0, e0, g0, h0⟩ := g.cons_inv
    obtain ⟨v1, q1, rfl, g1, h1⟩ := h0.cons_inv
    obtain ⟨v2, q2, rfl, g2, h2⟩ := h1.cons_inv
    obtain ⟨v3, q3, rfl, g3, h3⟩ := h2.cons_inv
    obtain rfl := h3.nil_inv
    obtain rfl : args = #[v0, v1, v2, v3] := by cases args; simp_all
    obtain ⟨c0, y0, rfl, r0⟩ := g0.agg Try.underlying24 opensBill
    obtain ⟨A2, cap2, ms, rfl, m1, m2, m3⟩ := g1.slice Try.underlying25 opensMeans
    obtain ⟨till, rfl, x0⟩ := g2.int Try.underlying3 (by kernel_rfl)
    obtain ⟨A3, cap3, ls, rfl, b1, b2, b3⟩ := g3.slice Try.underlying26 opensOps
    obtain ⟨A, cap, rfl, z1, z2, z3, z4⟩ := bill_of r0
    exact pmatches_walk A y0.1 cap y0.2 A2 ms cap2 till A3 ls cap3 W z3 m3 b3 (by unfold maxLen at z2; omega) (by unfold maxLen at m2; omega) (by unfold maxLen at b2; omega) z4

theorem payMatchesReference_holds : Rows.PayMatchesReferenceSaid :=
  OpenClaim.holds_of_wide 3 Try.f3 rfl rfl rfl rfl rfl rfl rfl ⟨rfl, rfl, rfl, rfl, rfl⟩ rfl rfl rfl rfl rfl (by kernel_rfl) Try.func3 (by kernel_rfl)
    (of_decide_eq_true (by kernel_rfl)) (by unfold Func.isWrapper; first | (rw [if_pos (by decide +kernel)]; kernel_rfl) | (rw [if_neg (by decide +kernel)]; exact ⟨rfl, rfl⟩))
    (fun os started H enc _ => payMatchesReference_lifted os started H enc)
#print axioms payMatchesReference_holds
end Go.Proofs.Ythgiopgapkjleaa
