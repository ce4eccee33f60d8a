/- DealMatchesReference: Sale, Resale and Refund agree with the reference; for every bill, number, decision, name and means; no condition. -/
import Derived.Test.YtggmihnhdojepaaDealY
import Derived.Test.YtggmihnhdojepaaDealBp
import Derived.Test.YtggmihnhdojepaaDealRv
import Derived.Test.YtggmihnhdojepaaDealRf
import Derived.Deep.DeepCutAuto
namespace Go.Proofs.Ytggmihnhdojepaa
open Go.RowKit Go.ChangeAt
set_option linter.unusedVariables false
set_option linter.unusedSimpArgs false
attribute [local go_sem] ext_cell ext_frozen lt_ext ext_drew
section
variable {A : Option Addr} {ls : List Ln} {cap n : Nat} {total : Int} {A2 : Option Addr} {ms : List Mn} {cap2 n2 : Nat} {pn : ByteArray} {w : World} {B : Nat}
theorem rsale_in (h : Elems tLine w B A ls) (h2 : Elems tMean w B A2 ms) (hB : B ≤ w.heap.size) (hn : ls.length = n) (hl : n ≤ 60) (ht : fits total) (hn2 : ms.length = n2) (hl2 : n2 ≤ 9223372036854775807) (hpn : pn.size ≤ maxLen) (ps : List Pst) (er : Int) (h3 : saleL ls total pn ms = ps) (h4 : saleE ls total pn ms = er) :
    ∀ X, Below w.heap.size w X → Calls Try.prog 13 #[.agg #[.slice A n cap, .int .i64 total], .string pn, .slice A2 n2 cap2] X (Booked X ps er) := fun X hX => by
  have := rsale_any (cap := cap) (cap2 := cap2) (h.keep (hX.mono hB) (Nat.le_refl _)) (h2.keep (hX.mono hB) (Nat.le_refl _)) (by have := hX.size; omega) hn hl ht hn2 hl2 hpn
  rwa [h3, h4] at this
theorem rrefund_in (amount : Int) (h : Elems tLine w B A ls) (h2 : Elems tMean w B A2 ms) (hB : B ≤ w.heap.size) (hn : ls.length = n) (hl : n ≤ 60) (ht : fits total) (hn2 : ms.length = n2) (hl2 : n2 ≤ 9223372036854775807) (hfa : fits amount) (ps : List Pst) (er : Int) (h3 : refundL ls total amount ms = ps) (h4 : refundE ls total amount ms = er) :
    ∀ X, Below w.heap.size w X → Calls Try.prog 17 #[.agg #[.slice A n cap, .int .i64 total], .int .i64 amount, .slice A2 n2 cap2] X (Booked X ps er) := fun X hX => by
  have := rrefund_any (cap := cap) (cap2 := cap2) amount (h.keep (hX.mono hB) (Nat.le_refl _)) (h2.keep (hX.mono hB) (Nat.le_refl _)) (by have := hX.size; omega) hn hl ht hn2 hl2 hfa
  rwa [h3, h4] at this
theorem rresale_in (ok tg si : Bool) (lim price fn fd tn td cn cd sn sd rn rd y m : Int) (h : Elems tLine w B A ls) (h2 : Elems tMean w B A2 ms) (hB : B ≤ w.heap.size) (hn : ls.length = n) (hl : n ≤ 60) (ht : fits total) (hn2 : ms.length = n2) (hl2 : n2 ≤ 9223372036854775807) (hpn : pn.size ≤ maxLen) (hfm : fits m) (ps : List Pst) (er : Int) (h3 : resaleL m ls total cn cd sn sd pn ms = ps) (h4 : resaleE m ls total cn cd sn sd pn ms = er) :
    ∀ X, Below w.heap.size w X → Calls Try.prog 15 #[.int .i64 m, .agg #[.slice A n cap, .int .i64 total], .agg #[.bool ok, .bool tg, .bool si, .int .i64 lim, .int .i64 price, .int .i64 fn, .int .i64 fd, .int .i64 tn, .int .i64 td, .int .i64 cn, .int .i64 cd, .int .i64 sn, .int .i64 sd, .int .i64 rn, .int .i64 rd, .int .i64 y], .string pn, .slice A2 n2 cap2] X (Booked X ps er) := fun X hX => by
  have := rresale_any (cap := cap) (cap2 := cap2) ok tg si lim price fn fd tn td cn cd sn sd rn rd y m (h.keep (hX.mono hB) (Nat.le_refl _)) (h2.keep (hX.mono hB) (Nat.le_refl _)) (by have := hX.size; omega) hn hl ht hn2 hl2 hpn hfm
  rwa [h3, h4] at this
end
set_option maxRecDepth 100000 in
set_option maxHeartbeats 8000000 in
theorem match_walk (m : Int) (A : Option Addr) (ls : List Ln) (cap : Nat) (total : Int) (ok tg si : Bool) (lim price fn fd tn td cn cd sn sd rn rd y : Int) (pn : ByteArray) (A2 : Option Addr) (ms : List Mn) (cap2 : Nat) (w : World) (h : Elems tLine w w.heap.size A ls) (h2 : Elems tMean w w.heap.size A2 ms) (hm : ls.length ≤ 9223372036854775807) (hm2 : ms.length ≤ 9223372036854775807) (ht : fits total) (hpn : pn.size ≤ maxLen) (hfm : fits m) :
    Calls Try.prog 3 #[.agg #[.slice A ls.length cap, .int .i64 total], .int .i64 m, .agg #[.bool ok, .bool tg, .bool si, .int .i64 lim, .int .i64 price, .int .i64 fn, .int .i64 fd, .int .i64 tn, .int .i64 td, .int .i64 cn, .int .i64 cd, .int .i64 sn, .int .i64 sd, .int .i64 rn, .int .i64 rd, .int .i64 y], .string pn, .slice A2 ms.length cap2] w fun e w' => e = .returned (.bool true) ∧ Below w.heap.size w w' := by
  have HH := Lib.hid (And.intro h (And.intro h2 (And.intro ht (And.intro hpn hfm))))
  have hps : pn.size ≤ 9223372036854775807 := by unfold maxLen at hpn; omega
  clear h h2 ht hpn hfm
  go_enter Try.func3, Try.ntmps3
  go_wp2_with fail
  refine (head_any _).mono ?_
  rintro e W ⟨rfl, hb⟩
  have hw : Below w.heap.size w W := Below.trans0 (Below.alloc0 (below_self _ _) _) hb
  have b0 : Bk W w.heap.size #[.slice A ls.length cap, .int .i64 total] 24 := ((Bk.new w _ _).alloc _).below hb
  have b1 : Bk W (w.heap.size + 1) #[.bool ok, .bool tg, .bool si, .int .i64 lim, .int .i64 price, .int .i64 fn, .int .i64 fd, .int .i64 tn, .int .i64 td, .int .i64 cn, .int .i64 cd, .int .i64 sn, .int .i64 sd, .int .i64 rn, .int .i64 rd, .int .i64 y] 28 := (bk_new_at _ _ _ _ (by simp)).below hb
  have hws := hw.size
  have c0 := b0.cell
  have l0 := b0.lt
  have c1 := b1.cell
  have l1 := b1.lt
  have HE := Lib.hid (And.intro (HH.out.1.keep hw (Nat.le_refl _)) (HH.out.2.1.keep hw (Nat.le_refl _)))
  obtain ⟨q, hq⟩ : ∃ v, fewD ls ms = v := ⟨_, rfl⟩
  have HF := Lib.hid (few_in (A := A) (total := total) (cap := cap) (cap2 := cap2) HE.out.2 hws rfl rfl hm hm2 q hq)
  have HQ := Lib.hid hq
  have HW := Lib.hid (And.intro hw (And.intro b0 b1))
  clear hw b0 b1 hb hq
  cases q
  · as_aux_lemma =>
    go_wp2_with (go_at_call 11; refine (HF.out _ ?bel).mono ?_; (case bel => (repeat (first | with_reducible exact Below.refl _ _ | with_reducible assumption | with_reducible refine Below.alloc0 ?_ _ | with_reducible refine Below.ext0 ?_ _ | with_reducible refine Below.drew ?_ | with_reducible refine below_drewN ?_ _ | (with_reducible refine Below.setCell (hp := ?hp) ?_ _; case hp => (first | (simp; done) | (simp; omega)))))); rintro e w' ⟨rfl, hb⟩; (first | (obtain ⟨u, rfl⟩ := ext_more hb; clear hb) | (obtain ⟨u, rfl⟩ := ext_more_alloc hb; clear hb) | (obtain ⟨u, rfl⟩ := ext_of hb; clear hb)))
    go_ret
    exact ⟨rfl, by have hw := HW.out.1; (repeat (first | with_reducible exact Below.refl _ _ | with_reducible assumption | with_reducible refine Below.alloc0 ?_ _ | with_reducible refine Below.ext0 ?_ _ | with_reducible refine Below.drew ?_ | with_reducible refine below_drewN ?_ _ | (with_reducible refine Below.setCell (hp := ?hp) ?_ _; case hp => (first | (simp; done) | (simp; omega)))))⟩
  · obtain ⟨f1, f2⟩ := fewD_out HQ.out
    by_cases hp : 100 < (pn.size : Int)
    · as_aux_lemma =>
      go_wp2_with (go_at_call 11; refine (HF.out _ ?bel).mono ?_; (case bel => (repeat (first | with_reducible exact Below.refl _ _ | with_reducible assumption | with_reducible refine Below.alloc0 ?_ _ | with_reducible refine Below.ext0 ?_ _ | with_reducible refine Below.drew ?_ | with_reducible refine below_drewN ?_ _ | (with_reducible refine Below.setCell (hp := ?hp) ?_ _; case hp => (first | (simp; done) | (simp; omega)))))); rintro e w' ⟨rfl, hb⟩; (first | (obtain ⟨u, rfl⟩ := ext_more hb; clear hb) | (obtain ⟨u, rfl⟩ := ext_more_alloc hb; clear hb) | (obtain ⟨u, rfl⟩ := ext_of hb; clear hb)))
      go_ret
      exact ⟨rfl, by have hw := HW.out.1; (repeat (first | with_reducible exact Below.refl _ _ | with_reducible assumption | with_reducible refine Below.alloc0 ?_ _ | with_reducible refine Below.ext0 ?_ _ | with_reducible refine Below.drew ?_ | with_reducible refine below_drewN ?_ _ | (with_reducible refine Below.setCell (hp := ?hp) ?_ _; case hp => (first | (simp; done) | (simp; omega)))))⟩
    · have hp' : (pn.size : Int) ≤ 100 := by omega
      clear hp
      go_upto_region 4 with (go_at_call 11; refine (HF.out _ ?bel).mono ?_; (case bel => (repeat (first | with_reducible exact Below.refl _ _ | with_reducible assumption | with_reducible refine Below.alloc0 ?_ _ | with_reducible refine Below.ext0 ?_ _ | with_reducible refine Below.drew ?_ | with_reducible refine below_drewN ?_ _ | (with_reducible refine Below.setCell (hp := ?hp) ?_ _; case hp => (first | (simp; done) | (simp; omega)))))); rintro e w' ⟨rfl, hb⟩; (first | (obtain ⟨u, rfl⟩ := ext_more hb; clear hb) | (obtain ⟨u, rfl⟩ := ext_more_alloc hb; clear hb) | (obtain ⟨u, rfl⟩ := ext_of hb; clear hb)))
      refine forget (fun X => Below W.heap.size W X) (by (repeat (first | with_reducible exact Below.refl _ _ | with_reducible assumption | with_reducible refine Below.alloc0 ?_ _ | with_reducible refine Below.ext0 ?_ _ | with_reducible refine Below.drew ?_ | with_reducible refine below_drewN ?_ _ | (with_reducible refine Below.setCell (hp := ?hp) ?_ _; case hp => (first | (simp; done) | (simp; omega)))))) ?_
      rintro wr hb
      have hsr := hb.size
      have hE := HE.out.1.keep (hb.mono hws) (Nat.le_refl _)
      have hMe := HE.out.2.keep (hb.mono hws) (Nat.le_refl _)
      have hsz : w.heap.size ≤ wr.heap.size := by omega
      have b1 := HW.out.2.2.below hb
      have b0 := HW.out.2.1.below hb
      obtain ⟨L4, hL4⟩ : ∃ v, saleL ls total pn ms = v := ⟨_, rfl⟩
      obtain ⟨r4, hr4⟩ : ∃ v, saleE ls total pn ms = v := ⟨_, rfl⟩
      obtain ⟨L6, hL6⟩ : ∃ v, resaleL m ls total cn cd sn sd pn ms = v := ⟨_, rfl⟩
      obtain ⟨r6, hr6⟩ : ∃ v, resaleE m ls total cn cd sn sd pn ms = v := ⟨_, rfl⟩
      obtain ⟨L8, hL8⟩ : ∃ v, refundL ls total m ms = v := ⟨_, rfl⟩
      obtain ⟨r8, hr8⟩ : ∃ v, refundE ls total m ms = v := ⟨_, rfl⟩
      have HS1 := Lib.hid (sale_in (cap := cap) (cap2 := cap2) hE hMe hsz rfl f1 HH.out.2.2.1 rfl hm2 HH.out.2.2.2.1 L4 r4 hL4 hr4)
      have HS3 := Lib.hid (resale_in (cap := cap) (cap2 := cap2) ok tg si lim price fn fd tn td cn cd sn sd rn rd y m hE hMe hsz rfl f1 HH.out.2.2.1 rfl hm2 HH.out.2.2.2.1 HH.out.2.2.2.2 L6 r6 hL6 hr6)
      have HS5 := Lib.hid (refund_in (cap := cap) (cap2 := cap2) m hE hMe hsz rfl f1 HH.out.2.2.1 rfl hm2 HH.out.2.2.2.2 L8 r8 hL8 hr8)
      have HS2 := Lib.hid (rsale_in (cap := cap) (cap2 := cap2) hE hMe hsz rfl f1 HH.out.2.2.1 rfl hm2 HH.out.2.2.2.1 L4 r4 hL4 hr4)
      have HS4 := Lib.hid (rresale_in (cap := cap) (cap2 := cap2) ok tg si lim price fn fd tn td cn cd sn sd rn rd y m hE hMe hsz rfl f1 HH.out.2.2.1 rfl hm2 HH.out.2.2.2.1 HH.out.2.2.2.2 L6 r6 hL6 hr6)
      have HS6 := Lib.hid (rrefund_in (cap := cap) (cap2 := cap2) m hE hMe hsz rfl f1 HH.out.2.2.1 rfl hm2 HH.out.2.2.2.2 L8 r8 hL8 hr8)
      have hl4 : L4.length ≤ 15 := by rw [← hL4]; exact saleL_len ..
      have hl6 : L6.length ≤ 15 := by rw [← hL6]; exact resaleL_len ..
      have hl8 : L8.length ≤ 15 := by rw [← hL8]; exact refundL_len ..
      have HBs := Lib.hid (And.intro b0 b1)
      have HWr := Lib.hid (Below.trans0 HW.out.1 hb)
      have HC0 : Hid (Below wr.heap.size wr wr) := Lib.hid (Below.refl _ _)
      have e0 := b0.cell
      have n0 := b0.lt
      have e1 := b1.cell
      have n1 := b1.lt
      clear hE hMe b0 b1 hL4 hr4 hL6 hr6 hL8 hr8 hb HE HF HH HQ HW c0 l0 c1 l1
      as_aux_lemma =>
      go_upto_region 5 with (go_at_call 12; refine (HS1.out _ ?bel).mono ?_; (case bel => have hw := HC0.out; (repeat (first | with_reducible exact Below.refl _ _ | with_reducible assumption | with_reducible refine Below.alloc0 ?_ _ | with_reducible refine Below.ext0 ?_ _ | with_reducible refine Below.drew ?_ | with_reducible refine below_drewN ?_ _ | (with_reducible refine Below.setCell (hp := ?hp) ?_ _; case hp => (first | (simp; done) | (simp; omega)))))); rintro e w1 ⟨A1, n1, q1, rfl, rfl, hE1, hc1, hm1, hb1⟩)
      have hg1 : wr.heap.size ≤ w1.heap.size := hb1.size
      refine forget (fun Z => Below wr.heap.size wr Z ∧ Elems tPst Z Z.heap.size A1 L4 ∧ Bk Z w1.heap.size #[.int .i64 0, .slice A1 L4.length q1] 34) ⟨Below.alloc0 hb1 _, hE1.keep (below_self _ _) (by simp), Bk.new _ _ _⟩ ?_
      generalize w1.heap.size = g1 at *
      clear hb1 hE1
      rintro Y1 ⟨hw, hE1, k1⟩
      have H1 := Lib.hid (And.intro hw (And.intro hE1 k1))
      have HC1 := Lib.hid (Below.trans0 HC0.out hw)
      have hys1 := hw.size
      clear hw hE1 k1 HC0 HS1 e0 n0 e1 n1
      have e0 := (HBs.out.1.below HC1.out).cell
      have n0 := (HBs.out.1.below HC1.out).lt
      have e1 := (HBs.out.2.below HC1.out).cell
      have n1 := (HBs.out.2.below HC1.out).lt
      go_upto_region 6 with (go_at_call 13; refine (HS2.out _ ?bel).mono ?_; (case bel => have hw := HC1.out; (repeat (first | with_reducible exact Below.refl _ _ | with_reducible assumption | with_reducible refine Below.alloc0 ?_ _ | with_reducible refine Below.ext0 ?_ _ | with_reducible refine Below.drew ?_ | with_reducible refine below_drewN ?_ _ | (with_reducible refine Below.setCell (hp := ?hp) ?_ _; case hp => (first | (simp; done) | (simp; omega)))))); rintro e w2 ⟨A2, n2, q2, rfl, rfl, hE2, hc2, hm2, hb2⟩)
      have hg2 : Y1.heap.size ≤ w2.heap.size := hb2.size
      refine forget (fun Z => Below Y1.heap.size Y1 Z ∧ Elems tPst Z Z.heap.size A2 L4 ∧ Bk Z w2.heap.size #[.int .i64 0, .slice A2 L4.length q2] 34) ⟨Below.alloc0 hb2 _, hE2.keep (below_self _ _) (by simp), Bk.new _ _ _⟩ ?_
      generalize w2.heap.size = g2 at *
      clear hb2 hE2
      rintro Y2 ⟨hw, hE2, k2⟩
      have H2 := Lib.hid (And.intro hw (And.intro hE2 k2))
      have HC2 := Lib.hid (Below.trans0 HC1.out hw)
      have hys2 := hw.size
      clear hw hE2 k2 HC1 HS2 e0 n0 e1 n1
      have e0 := (HBs.out.1.below HC2.out).cell
      have n0 := (HBs.out.1.below HC2.out).lt
      have e1 := (HBs.out.2.below HC2.out).cell
      have n1 := (HBs.out.2.below HC2.out).lt
      go_upto_region 7 with (go_at_call 14; refine (HS3.out _ ?bel).mono ?_; (case bel => have hw := HC2.out; (repeat (first | with_reducible exact Below.refl _ _ | with_reducible assumption | with_reducible refine Below.alloc0 ?_ _ | with_reducible refine Below.ext0 ?_ _ | with_reducible refine Below.drew ?_ | with_reducible refine below_drewN ?_ _ | (with_reducible refine Below.setCell (hp := ?hp) ?_ _; case hp => (first | (simp; done) | (simp; omega)))))); rintro e w3 ⟨A3, n3, q3, rfl, rfl, hE3, hc3, hm3, hb3⟩)
      have hg3 : Y2.heap.size ≤ w3.heap.size := hb3.size
      refine forget (fun Z => Below Y2.heap.size Y2 Z ∧ Elems tPst Z Z.heap.size A3 L6 ∧ Bk Z w3.heap.size #[.int .i64 0, .slice A3 L6.length q3] 34) ⟨Below.alloc0 hb3 _, hE3.keep (below_self _ _) (by simp), Bk.new _ _ _⟩ ?_
      generalize w3.heap.size = g3 at *
      clear hb3 hE3
      rintro Y3 ⟨hw, hE3, k3⟩
      have H3 := Lib.hid (And.intro hw (And.intro hE3 k3))
      have HC3 := Lib.hid (Below.trans0 HC2.out hw)
      have hys3 := hw.size
      clear hw hE3 k3 HC2 HS3 e0 n0 e1 n1
      have e0 := (HBs.out.1.below HC3.out).cell
      have n0 := (HBs.out.1.below HC3.out).lt
      have e1 := (HBs.out.2.below HC3.out).cell
      have n1 := (HBs.out.2.below HC3.out).lt
      go_upto_region 8 with (go_at_call 15; refine (HS4.out _ ?bel).mono ?_; (case bel => have hw := HC3.out; (repeat (first | with_reducible exact Below.refl _ _ | with_reducible assumption | with_reducible refine Below.alloc0 ?_ _ | with_reducible refine Below.ext0 ?_ _ | with_reducible refine Below.drew ?_ | with_reducible refine below_drewN ?_ _ | (with_reducible refine Below.setCell (hp := ?hp) ?_ _; case hp => (first | (simp; done) | (simp; omega)))))); rintro e w4 ⟨A4, n4, q4, rfl, rfl, hE4, hc4, hm4, hb4⟩)
      have hg4 : Y3.heap.size ≤ w4.heap.size := hb4.size
      refine forget (fun Z => Below Y3.heap.size Y3 Z ∧ Elems tPst Z Z.heap.size A4 L6 ∧ Bk Z w4.heap.size #[.int .i64 0, .slice A4 L6.length q4] 34) ⟨Below.alloc0 hb4 _, hE4.keep (below_self _ _) (by simp), Bk.new _ _ _⟩ ?_
      generalize w4.heap.size = g4 at *
      clear hb4 hE4
      rintro Y4 ⟨hw, hE4, k4⟩
      have H4 := Lib.hid (And.intro hw (And.intro hE4 k4))
      have HC4 := Lib.hid (Below.trans0 HC3.out hw)
      have hys4 := hw.size
      clear hw hE4 k4 HC3 HS4 e0 n0 e1 n1
      have e0 := (HBs.out.1.below HC4.out).cell
      have n0 := (HBs.out.1.below HC4.out).lt
      have e1 := (HBs.out.2.below HC4.out).cell
      have n1 := (HBs.out.2.below HC4.out).lt
      go_upto_region 9 with (go_at_call 16; refine (HS5.out _ ?bel).mono ?_; (case bel => have hw := HC4.out; (repeat (first | with_reducible exact Below.refl _ _ | with_reducible assumption | with_reducible refine Below.alloc0 ?_ _ | with_reducible refine Below.ext0 ?_ _ | with_reducible refine Below.drew ?_ | with_reducible refine below_drewN ?_ _ | (with_reducible refine Below.setCell (hp := ?hp) ?_ _; case hp => (first | (simp; done) | (simp; omega)))))); rintro e w5 ⟨A5, n5, q5, rfl, rfl, hE5, hc5, hm5, hb5⟩)
      have hg5 : Y4.heap.size ≤ w5.heap.size := hb5.size
      refine forget (fun Z => Below Y4.heap.size Y4 Z ∧ Elems tPst Z Z.heap.size A5 L8 ∧ Bk Z w5.heap.size #[.int .i64 0, .slice A5 L8.length q5] 34) ⟨Below.alloc0 hb5 _, hE5.keep (below_self _ _) (by simp), Bk.new _ _ _⟩ ?_
      generalize w5.heap.size = g5 at *
      clear hb5 hE5
      rintro Y5 ⟨hw, hE5, k5⟩
      have H5 := Lib.hid (And.intro hw (And.intro hE5 k5))
      have HC5 := Lib.hid (Below.trans0 HC4.out hw)
      have hys5 := hw.size
      clear hw hE5 k5 HC4 HS5 e0 n0 e1 n1
      have e0 := (HBs.out.1.below HC5.out).cell
      have n0 := (HBs.out.1.below HC5.out).lt
      have e1 := (HBs.out.2.below HC5.out).cell
      have n1 := (HBs.out.2.below HC5.out).lt
      go_upto_region 10 with (go_at_call 17; refine (HS6.out _ ?bel).mono ?_; (case bel => have hw := HC5.out; (repeat (first | with_reducible exact Below.refl _ _ | with_reducible assumption | with_reducible refine Below.alloc0 ?_ _ | with_reducible refine Below.ext0 ?_ _ | with_reducible refine Below.drew ?_ | with_reducible refine below_drewN ?_ _ | (with_reducible refine Below.setCell (hp := ?hp) ?_ _; case hp => (first | (simp; done) | (simp; omega)))))); rintro e w6 ⟨A6, n6, q6, rfl, rfl, hE6, hc6, hm6, hb6⟩)
      have hg6 : Y5.heap.size ≤ w6.heap.size := hb6.size
      refine forget (fun Z => Below Y5.heap.size Y5 Z ∧ Elems tPst Z Z.heap.size A6 L8 ∧ Bk Z w6.heap.size #[.int .i64 0, .slice A6 L8.length q6] 34) ⟨Below.alloc0 hb6 _, hE6.keep (below_self _ _) (by simp), Bk.new _ _ _⟩ ?_
      generalize w6.heap.size = g6 at *
      clear hb6 hE6
      rintro Y6 ⟨hw, hE6, k6⟩
      have H6 := Lib.hid (And.intro hw (And.intro hE6 k6))
      have HC6 := Lib.hid (Below.trans0 HC5.out hw)
      have hys6 := hw.size
      clear hw hE6 k6 HC5 HS6 e0 n0 e1 n1
      have T6 : Below Y6.heap.size Y6 Y6 := Below.refl _ _
      have T5 : Below Y5.heap.size Y5 Y6 := Below.trans0 H6.out.1 T6
      have T4 : Below Y4.heap.size Y4 Y6 := Below.trans0 H5.out.1 T5
      have T3 : Below Y3.heap.size Y3 Y6 := Below.trans0 H4.out.1 T4
      have T2 : Below Y2.heap.size Y2 Y6 := Below.trans0 H3.out.1 T3
      have T1 : Below Y1.heap.size Y1 Y6 := Below.trans0 H2.out.1 T2
      have k1 := H1.out.2.2.below T1
      have c1 := k1.cell
      have l1 := k1.lt
      have E1 := H1.out.2.1.keep T1 T1.size
      have k2 := H2.out.2.2.below T2
      have c2 := k2.cell
      have l2 := k2.lt
      have E2 := H2.out.2.1.keep T2 T2.size
      have k3 := H3.out.2.2.below T3
      have c3 := k3.cell
      have l3 := k3.lt
      have E3 := H3.out.2.1.keep T3 T3.size
      have k4 := H4.out.2.2.below T4
      have c4 := k4.cell
      have l4 := k4.lt
      have E4 := H4.out.2.1.keep T4 T4.size
      have k5 := H5.out.2.2.below T5
      have c5 := k5.cell
      have l5 := k5.lt
      have E5 := H5.out.2.1.keep T5 T5.size
      have k6 := H6.out.2.2.below T6
      have c6 := k6.cell
      have l6 := k6.lt
      have E6 := H6.out.2.1.keep T6 T6.size
      have S1 := Lib.hid (sameb_in E1 E2 (Nat.le_refl _) (Nat.le_refl _) rfl rfl (by omega) (by omega) q1 q2 true (decide_eq_true rfl))
      have S3 := Lib.hid (sameb_in E3 E4 (Nat.le_refl _) (Nat.le_refl _) rfl rfl (by omega) (by omega) q3 q4 true (decide_eq_true rfl))
      have S5 := Lib.hid (sameb_in E5 E6 (Nat.le_refl _) (Nat.le_refl _) rfl rfl (by omega) (by omega) q5 q6 true (decide_eq_true rfl))
      have HF6 := Lib.hid (Below.trans0 HWr.out HC6.out)
      clear T1 T2 T3 T4 T5 T6 k1 k2 k3 k4 k5 k6 E1 E2 E3 E4 E5 E6 H1 H2 H3 H4 H5 H6 HC6 HBs HWr hys1 hys2 hys3 hys4 hys5 hys6
      go_wp2_with (go_at_call 18; (first | with_reducible refine Calls.mono (S1.out _ ?bel) ?_ | with_reducible refine Calls.mono (S3.out _ ?bel) ?_ | with_reducible refine Calls.mono (S5.out _ ?bel) ?_); (case bel => (repeat (first | with_reducible exact Below.refl _ _ | with_reducible assumption | with_reducible refine Below.alloc0 ?_ _ | with_reducible refine Below.ext0 ?_ _ | with_reducible refine Below.drew ?_ | with_reducible refine below_drewN ?_ _ | (with_reducible refine Below.setCell (hp := ?hp) ?_ _; case hp => (first | (simp; done) | (simp; omega)))))); rintro e w9 ⟨rfl, hb⟩; (first | (obtain ⟨u, rfl⟩ := ext_more hb; clear hb) | (obtain ⟨u, rfl⟩ := ext_more_alloc hb; clear hb) | (obtain ⟨u, rfl⟩ := ext_of hb; clear hb)))
      go_ret
      exact ⟨rfl, by have hw := HF6.out; (repeat (first | with_reducible exact Below.refl _ _ | with_reducible assumption | with_reducible refine Below.alloc0 ?_ _ | with_reducible refine Below.ext0 ?_ _ | with_reducible refine Below.drew ?_ | with_reducible refine below_drewN ?_ _ | (with_reducible refine Below.setCell (hp := ?hp) ?_ _; case hp => (first | (simp; done) | (simp; omega)))))⟩
set_option maxRecDepth 100000 in
theorem dealMatchesReference_lifted (os : Os) (started : os.Started) (H : Type) (enc : TypeId × Value → H) :
    ReturnsInHanded {} Try.checked os 3 .any (Rows.dealMatchesReferenceSpec.pre6 enc Try.prog Try.f3 [] false) (Rows.dealMatchesReferenceSpec.post enc Try.prog Try.f3 false true false false) := by
  refine law_lifted (C := Try.checked) own started (by kernel_rfl) Try.func3 rfl (fun ds hds => ?_) (tb := 4) (by kernel_rfl) Try.underlying4 laidOut (fun t ht => ?_)
    (ChangeSpec.witness6 (enc := enc) (C := Try.checked) false ⟨#[], #[.agg #[.slice none 0 0, .int .i64 0], .int .i64 0, .agg #[.bool false, .bool false, .bool false, .int .i64 0, .int .i64 0, .int .i64 0, .int .i64 0, .int .i64 0, .int .i64 0, .int .i64 0, .int .i64 0, .int .i64 0, .int .i64 0, .int .i64 0, .int .i64 0, .int .i64 0], .string ⟨#[]⟩, .slice none 0 0], []⟩ 8 (by kernel_rfl) (by kernel_rfl) (by kernel_rfl) (by kernel_rfl)) ?_
  · rw [Try.params3] at hds
    match ds, hds with
    | [_, _, _, _, _], _ => rfl
  · have := List.all_eq_true.1 (show (Try.f3.params.toList.all fun t => Try.prog.readableRec t && decide (t < Try.prog.types.size)) = true by kernel_rfl) t ht
    simp only [Bool.and_eq_true, decide_eq_true_eq] at this
    exact this
  · intro W args g
    rw [Try.params3] at g
    obtain ⟨v0, q0, e0, g0, h0⟩ := g.cons_inv
    obtain ⟨v1, q1, rfl, g1, h1⟩ := h0.cons_inv
    obtain ⟨v2, q2, rfl, g2, h2⟩ := h1.cons_inv
    obtain ⟨v3, q3, rfl, g3, h3⟩ := h2.cons_inv
    obtain ⟨v4, q4, rfl, g4, h4⟩ := h3.cons_inv
    obtain rfl := h4.nil_inv
    obtain rfl : args = #[v0, v1, v2, v3, v4] := by cases args; simp_all
    obtain ⟨c0, y0, rfl, r0⟩ := g0.agg Try.underlying24 opensBill
    obtain ⟨m, rfl, b0⟩ := g1.int Try.underlying3 (by kernel_rfl)
    obtain ⟨c1, y1, rfl, r1⟩ := g2.agg Try.underlying28 opensDec
    obtain ⟨pn, rfl, b1⟩ := g3.str Try.underlying9 (by kernel_rfl)
    obtain ⟨A2, cap2, ms, rfl, d1, d2, d3⟩ := g4.slice Try.underlying29 opensMeans
    obtain ⟨A, cap, rfl, a1, a2, a3, a4⟩ := bill_of r0
    obtain ⟨ok, tg, si, lim, price, fn, fd, tn, td, cn, cd, sn, sd, rn, rd, y, rfl⟩ := dec_of r1
    exact match_walk m A y0.1 cap y0.2 ok tg si lim price fn fd tn td cn cd sn sd rn rd y pn A2 ms cap2 W a3 d3 (by unfold maxLen at a2; omega) (by unfold maxLen at d2; omega) a4 b1 b0

theorem dealMatchesReference_holds : Rows.DealMatchesReferenceSaid :=
  OpenClaim.holds_of_wide 3 Try.f3 rfl rfl rfl rfl rfl rfl rfl ⟨rfl, rfl, rfl, rfl, rfl⟩ rfl rfl rfl rfl rfl (by kernel_rfl) Try.func3 (by kernel_rfl)
    (of_decide_eq_true (by kernel_rfl)) (by unfold Func.isWrapper; first | (rw [if_pos (by decide +kernel)]; kernel_rfl) | (rw [if_neg (by decide +kernel)]; exact ⟨rfl, rfl⟩))
    (fun os started H enc _ => dealMatchesReference_lifted os started H enc)
#print axioms dealMatchesReference_holds
