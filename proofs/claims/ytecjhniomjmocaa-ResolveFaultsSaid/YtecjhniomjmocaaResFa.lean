/- ResolveFaults: at most one fault for each item, in their order; without the items that have faults there are none, for every rules and hall; no condition. -/
import Derived.Test.YtecjhniomjmocaaResFh
import Derived.Test.YtecjhniomjmocaaPlanI
namespace Go.Proofs.Ytecjhniomjmocaa
open Go.RowKit Go.ChangeAt
set_option linter.unusedVariables false
set_option linter.unusedSimpArgs false
attribute [local go_sem] ext_cell ext_frozen lt_ext ext_drew extB_cell lt_extB

theorem one_it : ∀ (w : World) (B : Nat) (cs : List Value) (x : It), tIt.rd w B cs x → ∀ u ∈ cs, u.oneCell' = true := by
  rintro w B cs x ⟨c1, r1, rfl, ⟨rfl, _⟩, ⟨c2, r2, rfl, ⟨rfl, _⟩, ⟨c3, r3, rfl, ⟨AW, cw, rfl, _⟩, ⟨c4, r4, rfl, ⟨rfl, _⟩, ⟨c5, r5, rfl, ⟨a1, b1, rfl, ⟨rfl, _⟩, ⟨rfl, _⟩⟩, ⟨c6, r6, rfl, ⟨a2, b2, rfl, ⟨rfl, _⟩, ⟨rfl, _⟩⟩, ⟨rfl, _⟩⟩⟩⟩⟩⟩⟩ u hu
  simp only [List.cons_append, List.nil_append, List.mem_cons, List.not_mem_nil, or_false] at hu
  rcases hu with rfl | rfl | rfl | rfl | rfl | rfl | rfl | rfl | rfl <;> rfl
theorem it_at {w : World} {B : Nat} {cs : List Value} {x : It} {k : Nat} (hk : fits (k : Int)) (h : tIt.rd w B cs x) : tIt.rd w B (cs.set 8 (.int .i64 k)) (atI k x) := by
  obtain ⟨kd, nm, ws, n, ⟨rn, rd⟩, ⟨sn, sd⟩, att⟩ := x
  obtain ⟨c1, r1, rfl, ⟨rfl, h1⟩, ⟨c2, r2, rfl, ⟨rfl, h2⟩, ⟨c3, r3, rfl, ⟨AW, cw, rfl, h3⟩, ⟨c4, r4, rfl, ⟨rfl, h4⟩, ⟨c5, r5, rfl, ⟨a1, b1, rfl, ⟨rfl, h5⟩, ⟨rfl, h6⟩⟩, ⟨c6, r6, rfl, ⟨a2, b2, rfl, ⟨rfl, h7⟩, ⟨rfl, h8⟩⟩, ⟨rfl, h9⟩⟩⟩⟩⟩⟩⟩ := h
  exact ⟨[_], _, rfl, ⟨rfl, h1⟩, ⟨[_], _, rfl, ⟨rfl, h2⟩, ⟨[_], _, rfl, ⟨AW, cw, rfl, h3⟩, ⟨[_], _, rfl, ⟨rfl, h4⟩, ⟨[_, _], _, rfl, ⟨[_], [_], rfl, ⟨rfl, h5⟩, ⟨rfl, h6⟩⟩, ⟨[_, _], _, rfl, ⟨[_], [_], rfl, ⟨rfl, h7⟩, ⟨rfl, h8⟩⟩, ⟨rfl, hk⟩⟩⟩⟩⟩⟩⟩
theorem few_of {its : List It} (h : fewB its = true) {l : List It} (hl : l.length ≤ its.length) (hm : ∀ y ∈ l, ∃ x ∈ its, y.2.2.1 = x.2.2.1) : l.length ≤ 210 ∧ ∀ x ∈ l, x.2.2.1.length ≤ 12 ∧ ∀ l ∈ x.2.2.1, l.length ≤ 8 := by
  obtain ⟨h1, h2⟩ := fewB_spec h
  refine ⟨by omega, fun y hy => ?_⟩
  obtain ⟨x, hx, e⟩ := hm y hy
  rw [e]
  exact h2 x hx

set_option maxRecDepth 100000 in
set_option maxHeartbeats 4000000 in
theorem faults12 (A : Option Addr) (its : List It) (cap : Nat) (hn : ByteArray) (x y : Int) (AH : Option Addr) (lh : List Le) (ch : Nat) (w : World) (h : Elems tIt w w.heap.size A its) (hh : Elems tLe w w.heap.size AH lh) (hcap : its.length ≤ cap) (hcm : cap ≤ 9223372036854775807) (hlh : lh.length ≤ 9223372036854775807) :
    Calls Try.prog 8 #[.agg #[.slice A its.length cap], .agg #[.string hn, .int .i64 x, .int .i64 y, .slice AH lh.length ch]] w fun e w' => e = .returned (.bool true) ∧ Below w.heap.size w w' := by
  have HH := Lib.hid (And.intro h hh)
  clear h hh
  go_enter Try.func8, Try.ntmps8
  go_wp2_with fail
  refine (head_any _).mono ?_
  rintro e w1 ⟨rfl, hb⟩
  have HB := Lib.hid hb
  clear hb
  go_upto_region 2 with (fail)
  refine forget (fun W => Below w.heap.size w W ∧ Bk W w.heap.size #[.slice A its.length cap] 24 ∧ Bk W (w.heap.size + 1) #[.string hn, .int .i64 x, .int .i64 y, .slice AH lh.length ch] 29) ⟨Below.trans0 (Below.alloc0 (below_self _ _) _) HB.out, ((Bk.new w _ _).alloc _).below HB.out, (bk_next w _ _ _).below HB.out⟩ ?_
  clear HB
  rintro W ⟨hw, b0, b1⟩
  have c0 := b0.cell
  have c1 := b1.cell
  have l0 := b0.lt
  have l1 := b1.lt
  have HW := Lib.hid (And.intro hw (And.intro b0 b1))
  clear hw b0 b1
  obtain ⟨q1, hq1⟩ : ∃ v, fewB its = v := ⟨_, rfl⟩
  obtain ⟨q2, hq2⟩ : ∃ v, smallB lh = v := ⟨_, rfl⟩
  have HQ1 := Lib.hid hq1
  have HQ2 := Lib.hid hq2
  have hin : its.length ≤ 9223372036854775807 := by omega
  clear hq1 hq2
  cases q1
  · go_wp2_with (go_at_call 10; refine (few_in HH.out.1 hin _ HQ1.out _ HW.out.1).mono ?_; rintro e w' ⟨rfl, hb⟩; (first | (obtain ⟨u, rfl⟩ := ext_more hb; clear hb) | (obtain ⟨u, rfl⟩ := ext_more_alloc hb; clear hb) | (obtain ⟨u, rfl⟩ := ext_of hb; clear hb)))
    go_ret
    exact ⟨rfl, by have hw := HW.out.1; (repeat (first | with_reducible exact Below.refl _ _ | with_reducible assumption | with_reducible refine Below.alloc0 ?_ _ | with_reducible refine Below.ext0 ?_ _ | with_reducible refine Below.drew ?_ | with_reducible refine below_drewN ?_ _ | (with_reducible refine Below.setCell (hp := ?hp) ?_ _; case hp => (first | (simp; done) | (simp; omega)))))⟩
  cases q2
  · go_wp2_with (first
      | (go_at_call 10; refine (few_in HH.out.1 hin _ HQ1.out _ HW.out.1).mono ?_; rintro e w' ⟨rfl, hb⟩; (first | (obtain ⟨u, rfl⟩ := ext_more hb; clear hb) | (obtain ⟨u, rfl⟩ := ext_more_alloc hb; clear hb) | (obtain ⟨u, rfl⟩ := ext_of hb; clear hb)))
      | (go_at_call 11; refine (small_in HH.out.2 hlh _ HQ2.out _ (Below.ext0 HW.out.1 _)).mono ?_; rintro e w' ⟨rfl, hb⟩; (first | (obtain ⟨u, rfl⟩ := ext_more hb; clear hb) | (obtain ⟨u, rfl⟩ := ext_more_alloc hb; clear hb) | (obtain ⟨u, rfl⟩ := ext_of hb; clear hb))))
    go_ret
    exact ⟨rfl, by have hw := HW.out.1; (repeat (first | with_reducible exact Below.refl _ _ | with_reducible assumption | with_reducible refine Below.alloc0 ?_ _ | with_reducible refine Below.ext0 ?_ _ | with_reducible refine Below.drew ?_ | with_reducible refine below_drewN ?_ _ | (with_reducible refine Below.setCell (hp := ?hp) ?_ _; case hp => (first | (simp; done) | (simp; omega)))))⟩
  by_cases h200 : 200 < its.length
  · have h200' : 200 < (its.length : Int) := by omega
    clear h200
    go_wp2_with (first
      | (go_at_call 10; refine (few_in HH.out.1 hin _ HQ1.out _ HW.out.1).mono ?_; rintro e w' ⟨rfl, hb⟩; (first | (obtain ⟨u, rfl⟩ := ext_more hb; clear hb) | (obtain ⟨u, rfl⟩ := ext_more_alloc hb; clear hb) | (obtain ⟨u, rfl⟩ := ext_of hb; clear hb)))
      | (go_at_call 11; refine (small_in HH.out.2 hlh _ HQ2.out _ (Below.ext0 HW.out.1 _)).mono ?_; rintro e w' ⟨rfl, hb⟩; (first | (obtain ⟨u, rfl⟩ := ext_more hb; clear hb) | (obtain ⟨u, rfl⟩ := ext_more_alloc hb; clear hb) | (obtain ⟨u, rfl⟩ := ext_of hb; clear hb))))
    go_ret
    exact ⟨rfl, by have hw := HW.out.1; (repeat (first | with_reducible exact Below.refl _ _ | with_reducible assumption | with_reducible refine Below.alloc0 ?_ _ | with_reducible refine Below.ext0 ?_ _ | with_reducible refine Below.drew ?_ | with_reducible refine below_drewN ?_ _ | (with_reducible refine Below.setCell (hp := ?hp) ?_ _; case hp => (first | (simp; done) | (simp; omega)))))⟩
  have h200' : ¬ 200 < (its.length : Int) := by omega
  have hl2 : its.length ≤ 200 := by omega
  clear h200
  obtain ⟨L, hL⟩ : ∃ L, (lvlsN lh, blksN lh) = L := ⟨_, rfl⟩
  have HL := Lib.hid hL
  obtain ⟨ps, hps⟩ : ∃ ps, rulesP L its = ps := ⟨_, rfl⟩
  obtain ⟨fs, hfs⟩ : ∃ fs, faultsP L its = fs := ⟨_, rfl⟩
  have HP := Lib.hid (And.intro hps hfs)
  clear hL hps hfs
  have HC0 := Lib.hid (fun (A : Option Addr) (ls : List It) (cap : Nat) (X : World) (B : Nat) (hE : Elems tIt X B A ls) (hwB : w.heap.size ≤ B) (hB : B ≤ X.heap.size) (hX : Below w.heap.size w X) (hl : ls.length ≤ its.length) (hm : ∀ y ∈ ls, ∃ x ∈ its, y.2.2.1 = x.2.2.1) (hc : ls.length ≤ cap) (hcm : cap ≤ 9223372036854775807) =>
    compile_any A ls cap hn x y AH lh ch X B hE (HH.out.2.keep hX hwB) hB (few_of HQ1.out hl hm).1 hc hcm (few_of HQ1.out hl hm).2 (smallB_spec HQ2.out).1 (smallB_spec HQ2.out).2 L HL.out)
  go_upto_region 5 with (first
    | (go_at_call 10; refine (few_in HH.out.1 hin _ HQ1.out _ HW.out.1).mono ?_; rintro e w' ⟨rfl, hb⟩; (first | (obtain ⟨u, rfl⟩ := ext_more hb; clear hb) | (obtain ⟨u, rfl⟩ := ext_more_alloc hb; clear hb) | (obtain ⟨u, rfl⟩ := ext_of hb; clear hb)))
    | (go_at_call 11; refine (small_in HH.out.2 hlh _ HQ2.out _ (Below.ext0 HW.out.1 _)).mono ?_; rintro e w' ⟨rfl, hb⟩; (first | (obtain ⟨u, rfl⟩ := ext_more hb; clear hb) | (obtain ⟨u, rfl⟩ := ext_more_alloc hb; clear hb) | (obtain ⟨u, rfl⟩ := ext_of hb; clear hb)))
    | (go_at_call 12; refine (comp_in HH.out.1 HH.out.2 HQ1.out HQ2.out hcap hcm L HL.out _ (Below.ext0 HW.out.1 _)).mono ?_; rintro e w' ⟨hbC, A1, c1', A2, c2', he, hr, hf⟩; rw [HP.out.1, HP.out.2] at he; rw [HP.out.2] at hf; subst he; have HC := Lib.hid (And.intro hbC hf); clear hbC hr hf))
  have hbW : Below W.heap.size W w' := (below_ext W _).trans (HC.out.1.mono (size_ext _ _))
  refine forget (fun X => Below w.heap.size w X ∧ Bk X w.heap.size #[.slice A its.length cap] 24 ∧ Bk X (w.heap.size + 1) #[.string hn, .int .i64 x, .int .i64 y, .slice AH lh.length ch] 29 ∧ Elems tFa X X.heap.size A2 fs) ⟨Below.alloc0 (Below.trans0 HW.out.1 hbW) _, (HW.out.2.1.below hbW).alloc _, (HW.out.2.2.below hbW).alloc _, HC.out.2.keep (below_self _ _) (by simp)⟩ ?_
  clear hbW HC c0 c1 l0 l1 HW h200'
  generalize w'.heap.size = pb at *
  rintro X ⟨hX, b0, b1, hr⟩
  have HX := Lib.hid (And.intro hX (And.intro b0 (And.intro b1 hr)))
  clear hX b0 b1 hr
  go_upto_region 6 with (fail)
  refine forget (fun X0 => Below X.heap.size X X0 ∧ Bk X0 X.heap.size #[.slice none 0 0] 24) ⟨below_self _ _, Bk.new _ _ _⟩ ?_
  rintro X0 ⟨hX0, bg⟩
  have HX0 := Lib.hid (And.intro hX0 bg)
  clear hX0 bg
  have hwX : w.heap.size + 1 < X.heap.size := HX.out.2.2.1.lt
  go_wp2_with fail
  go_loopw [9, 10, 11] (fun i _ _ wr => ∃ (k : Nat) (v : Value), k ≤ its.length ∧ i = .int .i64 k ∧ Below X.heap.size X wr ∧ Bk wr X.heap.size #[v] 24 ∧ OwnL tIt 57 wr (X.heap.size + 1) w.heap.size v ((goodP its).take k)) (fun i _ _ _ => its.length - (intOf i).toNat)
  case atStart => exact ⟨0, _, by omega, rfl, HX0.out.1, HX0.out.2, OwnL.nil⟩
  case round =>
    obtain ⟨k, v, hk, rfl, hlow, bg, hown⟩ := hrel
    generalize wr = wA at *
    have hzA := hlow.size
    have b0 := HX.out.2.1.below hlow
    have c0 : wA.cell? ⟨w.heap.size, 0, none⟩ = some (.slice A its.length cap) := b0.cell 0
    have l0 := b0.lt
    by_cases hlt : k < its.length
    · obtain ⟨ib, io, ikd, inm, AW, ws, cw, iN, irn, ird, isn, isd, iatt, rfl, hib, Hik, i0, i1, i2, i3, i4, i5, i6, i7, i8, ig1, ig2, ig3, if1, if2, if3, if4, if5, if6, if7, ig4⟩ := pick_it (HH.out.1.keep (Below.trans0 HX.out.1 hlow) (Nat.le_refl _)) hlt
      have hkil : (k : Int) < (its.length : Int) := by omega
      have ibw : ib < wA.heap.size := by omega
      have Hst := Lib.hid (goodP_take Hik.out)
      have hlen : ((goodP its).take k).length = k := by rw [List.length_take, goodP_len]; omega
      have HA := Lib.hid (And.intro hlow (And.intro bg (And.intro hown (And.intro ig4.out hlen))))
      clear hlow bg hown ig4 ig3 Hik b0 hlen
      go_upto_region 11 with (fail)
      refine forget (fun Y => Below wA.heap.size wA Y ∧ Bk Y wA.heap.size #[.int .i64 ikd, .string inm, .slice AW ws.length cw, .int .i64 iN, .int .i64 irn, .int .i64 ird, .int .i64 isn, .int .i64 isd, .int .i64 k] 57) ⟨below_self wA _, Bk.new wA _ _⟩ ?_
      rintro Y ⟨hY, bi⟩
      have hYz := hY.size
      have d0 : Y.cell? ⟨wA.heap.size, 0, none⟩ = some (.int .i64 ikd) := bi.cell 0
      have d1 : Y.cell? ⟨wA.heap.size, 1, none⟩ = some (.string inm) := bi.cell 1
      have d2 : Y.cell? ⟨wA.heap.size, 2, none⟩ = some (.slice AW ws.length cw) := bi.cell 2
      have d3 : Y.cell? ⟨wA.heap.size, 3, none⟩ = some (.int .i64 iN) := bi.cell 3
      have d4 : Y.cell? ⟨wA.heap.size, 4, none⟩ = some (.int .i64 irn) := bi.cell 4
      have d5 : Y.cell? ⟨wA.heap.size, 5, none⟩ = some (.int .i64 ird) := bi.cell 5
      have d6 : Y.cell? ⟨wA.heap.size, 6, none⟩ = some (.int .i64 isn) := bi.cell 6
      have d7 : Y.cell? ⟨wA.heap.size, 7, none⟩ = some (.int .i64 isd) := bi.cell 7
      have d8 : Y.cell? ⟨wA.heap.size, 8, none⟩ = some (.int .i64 k) := bi.cell 8
      have li := bi.lt
      have HY := Lib.hid hY
      clear hY bi c0 l0 i0 i1 i2 i3 i4 i5 i6 i7 i8 ibw hib
      go_upto_region 12 with (fail)
      refine forget (fun Z => Below wA.heap.size wA Z ∧ Bk Z Y.heap.size #[.int .i64 ikd, .string inm, .slice AW ws.length cw, .int .i64 iN, .int .i64 irn, .int .i64 ird, .int .i64 isn, .int .i64 isd, .int .i64 k] 57) ⟨Below.alloc0 HY.out _, Bk.new Y _ _⟩ ?_
      clear d0 d1 d2 d3 d4 d5 d6 d7 d8 li
      rintro Z ⟨hZ, bi⟩
      have hZz := hZ.size
      have d0 : Z.cell? ⟨Y.heap.size, 0, none⟩ = some (.int .i64 ikd) := bi.cell 0
      have d1 : Z.cell? ⟨Y.heap.size, 1, none⟩ = some (.string inm) := bi.cell 1
      have d2 : Z.cell? ⟨Y.heap.size, 2, none⟩ = some (.slice AW ws.length cw) := bi.cell 2
      have d3 : Z.cell? ⟨Y.heap.size, 3, none⟩ = some (.int .i64 iN) := bi.cell 3
      have d4 : Z.cell? ⟨Y.heap.size, 4, none⟩ = some (.int .i64 irn) := bi.cell 4
      have d5 : Z.cell? ⟨Y.heap.size, 5, none⟩ = some (.int .i64 ird) := bi.cell 5
      have d6 : Z.cell? ⟨Y.heap.size, 6, none⟩ = some (.int .i64 isn) := bi.cell 6
      have d7 : Z.cell? ⟨Y.heap.size, 7, none⟩ = some (.int .i64 isd) := bi.cell 7
      have d8 : Z.cell? ⟨Y.heap.size, 8, none⟩ = some (.int .i64 k) := bi.cell 8
      have li := bi.lt
      obtain ⟨Ag, cg, rfl, hcg, hmg⟩ := HA.out.2.2.1.form
      have bgz := HA.out.2.1.below hZ
      have e0 : Z.cell? ⟨X.heap.size, 0, none⟩ = some (.slice Ag ((goodP its).take k).length cg) := bgz.cell 0
      have f0 := bgz.free 0
      have m0 := bgz.lt
      have HZ := Lib.hid (And.intro (HA.out.2.2.1.below hZ (by omega)) (And.intro bgz (And.intro (HA.out.1.trans (hZ.mono hzA)) (tIt.keep (hZ.mono (show w.heap.size ≤ wA.heap.size by omega)) (Nat.le_refl _) (it_at (k := k) (by unfold fits; omega) HA.out.2.2.2.1)))))
      have hro := fun g hg => (HA.out.2.2.1.lt g hg)
      have Hro := Lib.hid hro
      have hlk := HA.out.2.2.2.2
      have hcg' : cg ≤ 9223372036854775807 := by unfold maxLen at hmg; omega
      generalize (goodP its).take k = gk at *
      have hYX : X.heap.size ≤ Y.heap.size := by omega
      have hZX : X.heap.size + 1 ≤ Z.heap.size := by omega
      have hXle : w.heap.size ≤ X.heap.size := by omega
      clear hro hmg bgz hlk
      go_wp2_with (at_builtin; refine list_appendL (T := tIt) (base := X.heap.size + 1) (B := w.heap.size) (qs := gk) (v := .slice Ag gk.length cg) rfl _ _ _ rfl 96 Try.underlying22 (by kernel_rfl) (by decide) one_it rfl (HZ.out.1.below (below_self _ _) (by omega)) (some ⟨Z.heap.size, 0, none⟩) 1 1 [_] [[.int .i64 ikd, .string inm, .slice AW ws.length cw, .int .i64 iN, .int .i64 irn, .int .i64 ird, .int .i64 isn, .int .i64 isd, .int .i64 k]] rfl rfl rfl (fun i a1 a2 => by obtain rfl : i = 0 := (by simp at a1; omega); exact tIt.keep ((below_self Z _).mono (by omega)) (Nat.le_refl _) HZ.out.2.2.2) (by have := lies_bk (Bk.new Z #[.int .i64 ikd, .string inm, .slice AW ws.length cw, .int .i64 iN, .int .i64 irn, .int .i64 ird, .int .i64 isn, .int .i64 isd, .int .i64 k] 57) 1; simpa using this) (by unfold maxLen; rw [HA.out.2.2.2.2]; omega) (by rw [HA.out.2.2.2.2]; omega) (by simp; omega) (by omega) ?_; intro A8 c8 w8 hown8 hbel8 hg8 hd8; have b8 : Below (X.heap.size + 1) Z w8 := (((below_self Z _).mono hZX).trans hbel8); have hg9 := HZ.out.2.1.below' b8 (by omega); have c9 : w8.cell? ⟨X.heap.size, 0, none⟩ = some _ := hg9.cell 0; have f9 := hg9.free 0; have m9 := hg9.lt; have H8 := Lib.hid (And.intro hown8 (And.intro b8 hg9)); clear hown8 hbel8 hg8 hd8 b8 hg9)
      go_roundw
      case rel => 
        refine ⟨k + 1, .slice A8 (gk.length + 1) c8, by omega, by go_num, ?_, H8.out.2.2.set_ 0 _, ?_⟩
        · exact (HZ.out.2.2.1.trans (H8.out.2.1.mono (by omega))).setCell (by simp) _
        · rw [Hst.out]
          exact H8.out.1.only (S := fun b => b = X.heap.size) ((Only.refl (fun b => b = X.heap.size) w8).set_ (p := ⟨X.heap.size, 0, none⟩) (.inl rfl) _) (fun g hg => by omega) (by have := H8.out.2.1.size; omega) (fun g hg => by have := (H8.out.1.lt g hg).1; omega)
      case measure => simp [intOf]; omega
    · obtain rfl : k = its.length := by omega
      rw [List.take_of_length_le (by rw [goodP_len]; omega)] at hown
      obtain ⟨Ag, cg, rfl, hcg, hmg⟩ := hown.form
      have hcg' : cg ≤ 9223372036854775807 := by unfold maxLen at hmg; omega
      have hgl1 : (goodP its).length ≤ its.length := by rw [goodP_len]; exact Nat.le_refl _
      have hgl2 : its.length ≤ (goodP its).length := by rw [goodP_len]; exact Nat.le_refl _
      have hGm : ∀ y ∈ goodP its, ∃ x ∈ its, y.2.2.1 = x.2.2.1 := fun y hy => by
        obtain ⟨i, hi, rfl⟩ := List.mem_iff_getElem.1 hy
        have hi' : i < its.length := by omega
        exact ⟨its[i], List.getElem_mem hi', by simp [goodP, atI]⟩
      obtain ⟨good, hgood⟩ : ∃ g, goodP its = g := ⟨_, rfl⟩
      rw [hgood] at hgl1 hgl2 hGm hcg hown bg
      obtain ⟨gs, hgs⟩ : ∃ gs, faultsP L good = gs := ⟨_, rfl⟩
      have hlens : gs.length = fs.length := by rw [← hgs, ← hgood, ← HP.out.2]; exact fp_len hl2
      have HG := Lib.hid (And.intro hgs (And.intro hGm (And.intro hlens hgood)))
      have hEg := hown.elems (B2 := wA.heap.size) (by omega) (Nat.le_refl _)
      have HA := Lib.hid (And.intro hlow (And.intro bg hEg))
      have cg0 : wA.cell? ⟨X.heap.size, 0, none⟩ = some (.slice Ag good.length cg) := bg.cell 0
      have lg0 := bg.lt
      have b1 := HX.out.2.2.1.below hlow
      have c1 := b1.cell
      have l1 := b1.lt
      clear hgs hGm hlens hgood hown hlow bg hEg hmg b1 b0
      go_upto_region 14 with (go_at_call 12; refine (HC0.out Ag good cg _ wA.heap.size HA.out.2.2 (by omega) (Nat.le_refl _) (Below.trans0 HX.out.1 HA.out.1) (by omega) HG.out.2.1 hcg hcg').mono ?_; rintro e w' ⟨hbC, A3, c3, A4, c4, he, hr, hf⟩; rw [HG.out.1] at he hf; subst he; have HC := Lib.hid (And.intro hbC hf); clear hbC hr hf)
      have hbA : Below X.heap.size X w' := Below.trans0 HA.out.1 HC.out.1
      refine forget (fun X1 => Below w.heap.size w X1 ∧ Bk X1 w.heap.size #[.slice A its.length cap] 24 ∧ Bk X1 (w.heap.size + 1) #[.string hn, .int .i64 x, .int .i64 y, .slice AH lh.length ch] 29 ∧ Elems tFa X1 X1.heap.size A2 fs ∧ Elems tFa X1 X1.heap.size A4 gs ∧ Bk X1 X.heap.size #[.slice Ag good.length cg] 24 ∧ Elems tIt X1 X1.heap.size Ag good) ⟨Below.alloc0 (Below.trans0 HX.out.1 hbA) _, (HX.out.2.1.below hbA).alloc _, (HX.out.2.2.1.below hbA).alloc _, HX.out.2.2.2.keep (Below.alloc0 hbA _) (by have := hbA.size; simp; omega), HC.out.2.keep (below_self _ _) (by simp), (HA.out.2.1.below HC.out.1).alloc _, HA.out.2.2.keep (Below.alloc0 HC.out.1 _) (by have := HC.out.1.size; simp; omega)⟩ ?_
      clear hbA HC HA cg0 lg0 c0 c1 l0 l1 HX0
      generalize w'.heap.size = pb2 at *
      rintro X1 ⟨hX1, b0, b1, hf, hg, bg, hEg⟩
      have hxb := bg.lt
      have HY := Lib.hid (And.intro hX1 (And.intro b0 (And.intro b1 (And.intro hf (And.intro hg (And.intro bg hEg))))))
      clear hX1 b0 b1 hf hg bg hEg HX hzA
      have hq1 : ((fs.length : Int) != (gs.length : Int)) = false := by
        have := HG.out.2.2.1
        simpa using (show (fs.length : Int) = gs.length by omega)
      generalize X.heap.size = xb at *
      go_upto_region 17 with (fail)
      refine forget (fun X2 => Below X1.heap.size X1 X2 ∧ Bk X2 X1.heap.size #[.slice none 0 0] 24) ⟨below_self _ _, Bk.new _ _ _⟩ ?_
      rintro X2 ⟨hX2, br⟩
      have HX2 := Lib.hid (And.intro hX2 br)
      clear hX2 br hq1
      go_wp2_with fail
      go_loopw [15, 16] (fun c i wr => ∃ (k : Nat) (v : Value), k ≤ its.length ∧ i = .int .i64 k ∧ c = .int .i64 (cntP L its k) ∧ Below X1.heap.size X1 wr ∧ Bk wr X1.heap.size #[v] 24 ∧ OwnL tIt 57 wr (X1.heap.size + 1) X1.heap.size v (restTo L its k)) (fun _ i _ => its.length - (intOf i).toNat)
      case atStart => exact ⟨0, _, by omega, rfl, rfl, HX2.out.1, HX2.out.2, OwnL.nil⟩
      case round =>
        obtain ⟨k, v, hk, rfl, rfl, hlow, br, hown⟩ := hrel
        generalize wr = wB at *
        have hzB := hlow.size
        have bg := HY.out.2.2.2.2.2.1.below hlow
        have g0 : wB.cell? ⟨xb, 0, none⟩ = some (.slice Ag good.length cg) := bg.cell 0
        have lg := bg.lt
        have hcl : cntP L its k ≤ 200 := by
          have := faultsTo_len (L := L) hk
          unfold cntP
          omega
        by_cases hlt : k < its.length
        · have hkg : k < good.length := by omega
          obtain ⟨jb, jo, jkd, jnm, AJ, js, cj, jN, jrn, jrd, jsn, jsd, jatt, rfl, hjb, Hjk, j0, j1, j2, j3, j4, j5, j6, j7, j8, jg1, jg2, jg3, jf1, jf2, jf3, jf4, jf5, jf6, jf7, jg4⟩ := pick_it (HY.out.2.2.2.2.2.2.keep hlow (Nat.le_refl _)) hkg
          obtain ⟨ib, io, ikd, inm, AW, ws, cw, iN, irn, ird, isn, isd, iatt, rfl, hib, Hik, i0, i1, i2, i3, i4, i5, i6, i7, i8, ig1, ig2, ig3, if1, if2, if3, if4, if5, if6, if7, ig4⟩ := pick_it (HH.out.1.keep (Below.trans0 HY.out.1 hlow) (Nat.le_refl _)) hlt
          have hkil : (k : Int) < (its.length : Int) := by omega
          have hkgl : (k : Int) < (good.length : Int) := by omega
          have ibw : ib < wB.heap.size := by have := HY.out.1.size; omega
          have jbw : jb < wB.heap.size := by omega
          have hje := Option.some.inj (Hjk.out.symm.trans ((congrArg (fun l => l[k]?) HG.out.2.2.2).symm.trans (goodP_at Hik.out)))
          simp only [atI, Prod.mk.injEq] at hje
          obtain ⟨rfl, rfl, rfl, rfl, ⟨rfl, rfl⟩, ⟨rfl, rfl⟩, rfl⟩ := hje
          have hcs := cntP_step (L := L) Hik.out
          have hrs := restTo_step (L := L) Hik.out
          by_cases hflt : (fltAt L its k (jkd, jnm, js, jN, (jrn, jrd), (jsn, jsd), iatt)).1 = 0
          · rw [if_pos hflt] at hcs hrs
            have hno := fun t ht => no_fault (L := L) hl2 Hik.out hflt (t := t) ht
            rw [HG.out.2.2.2, HG.out.1] at hno
            obtain ⟨Ar, cr, rfl, hcr, hmr⟩ := hown.form
            have hcr' : cr ≤ 9223372036854775807 := by unfold maxLen at hmr; omega
            have hrl := restTo_len (L := L) (l := its) k
            have HB := Lib.hid (And.intro hlow (And.intro br (And.intro hown (And.intro jg4.out (And.intro hrs hcs)))))
            have r0 : wB.cell? ⟨X1.heap.size, 0, none⟩ = some (.slice Ar (restTo L its k).length cr) := br.cell 0
            have rl0 := br.lt
            clear hlow br hown ig3 ig4 jg3 jg4 Hjk hrs hcs bg hmr i0 i1 i2 i3 i4 i5 i6 i7 i8
            generalize restTo L its k = rs at *
            generalize cntP L its k = c at *
            have hfact : (¬ (c : Int) < (gs.length : Int)) ∨ ∃ gb go' y1 y2 y3, A4 = some ⟨gb, go', none⟩ ∧ (c : Int) < (gs.length : Int) ∧ gb < wB.heap.size ∧ wB.cell? ⟨gb, go' + c * 3 + 1, none⟩ = some (.int .i64 y2) ∧ (y2 == (k : Int)) = false ∧ wB.cell? ⟨gb, go' + c * 3, none⟩ = some (.int .i64 y1) ∧ wB.cell? ⟨gb, go' + c * 3 + 2, none⟩ = some (.int .i64 y3) := by
              by_cases hc : c < gs.length
              · right
                obtain ⟨gb, go', y1, y2, y3, e, hgb, Hg, g1, g2, g3, _, _, _⟩ := pick_fa (HY.out.2.2.2.2.1.keep HB.out.1 (Nat.le_refl _)) hc
                exact ⟨gb, go', y1, y2, y3, e, by omega, by omega, g2, by simpa using hno _ Hg.out, g1, g3⟩
              · left; omega
            have Hno := Lib.hid hfact
            clear hno hfact
            have hgo : ∀ {P : Prop}, P → P := fun h => h
            obtain hfact := Hno.out
            have tail_ : True := trivial
            rcases hfact with hcn | ⟨gb, go', y1, y2, y3, rfl, hcl2, hgbw, gc1, hne, gc0, gc2⟩
            all_goals
              go_upto_region 25 with (fail)
              obtain ⟨BB, hBB⟩ : ∃ B, X1.heap.size + 1 = B := ⟨_, rfl⟩
              have hqB : X1.heap.size < BB := by omega
              have hxB : xb < BB := by omega
              have hjB : jb < BB := by omega
              have hBX : BB ≤ wB.heap.size := by omega
              have hown := HB.out.2.2.1
              have HBB := Lib.hid hBB
              rw [hBB] at hown
              have HO := Lib.hid hown
              clear hown hBB
              have hS0 : Below (BB) wB wB.drew := (Below.refl _ _).drew
              have HS0 := Lib.hid hS0
              clear hS0
              refine region_planl (S := fun w' => ∃ u, w' = extB (BB) wB u) [([0, 1, 2, 3, 4, 5, 6], [7, 8]), ([9], [])] 10 (by kernel_rfl) (by kernel_rfl) (mem_extB hBX HS0.out) ?_
              refine plan_take (fun K9 h9 => ?_)
              simp only [List.map_cons, List.map_nil, pickO, List.getD_cons_zero, List.getD_cons_succ]
              repeat (go_big_quiet_step (fail))
              refine wpQuiet_nil (h9 _ ?_)
              clear h9 K9
              refine plan_run (fun K9 h9 => ?_)
              simp only [pickO, List.getD_cons_zero, List.getD_cons_succ]
              refine list_lit1w (by rfl) _ 57 _ (by rfl) #[.int .i64 jkd, .string jnm, .slice AJ js.length cj, .int .i64 jN, .int .i64 jrn, .int .i64 jrd, .int .i64 jsn, .int .i64 jsd, .int .i64 k] (by rfl) Try.underlying22 (by kernel_rfl) (by simp) (by simp) (by kernel_rfl) ?_
              show K9 _ _
              go_simp
              refine h9 _ _ (mem_extB hBX (HS0.out.alloc hBX _)) ?_
              clear h9 K9
              refine plan_run (fun K9 h9 => ?_)
              simp only [pickO, List.getD_cons_zero, List.getD_cons_succ]
              refine list_appendL (T := tIt) (base := BB) (B := X1.heap.size) (qs := rs) (v := .slice Ar rs.length cr) rfl _ _ _ rfl 96 Try.underlying22 (by kernel_rfl) (by decide) one_it rfl (HO.out.below ((Below.refl _ wB).drew.alloc (Nat.le_refl _) _) hzB) (some ⟨wB.heap.size, 0, none⟩) 1 1 [_] [[.int .i64 jkd, .string jnm, .slice AJ js.length cj, .int .i64 jN, .int .i64 jrn, .int .i64 jrd, .int .i64 jsn, .int .i64 jsd, .int .i64 k]] rfl rfl rfl (fun i a1 a2 => by obtain rfl : i = 0 := (by simp at a1; omega); exact tIt.keep (((Below.refl _ wB).drew.alloc (Nat.le_refl _) _).mono hzB) (Nat.le_refl _) HB.out.2.2.2.1) (by have := lies_bk (Bk.drew (Bk.new wB #[.int .i64 jkd, .string jnm, .slice AJ js.length cj, .int .i64 jN, .int .i64 jrn, .int .i64 jrd, .int .i64 jsn, .int .i64 jsd, .int .i64 k] 57)) 1; simpa using this) (by unfold maxLen; omega) (by omega) (by simp; omega) (by omega) ?_
              intro A8 c8 w8 hown8 hbel8 hg8 hd8
              show K9 _ _
              go_simp
              have hB8 : Below (BB) wB w8 := (HS0.out.alloc hBX _).trans hbel8
              have H8 := Lib.hid (And.intro hown8 (hB8))
              refine h9 _ _ (mem_extB hBX hB8) ?_
              clear h9 K9 hown8 hbel8 hg8 hd8 hB8
              refine plan_next ?_
              refine plan_take (fun K9 h9 => ?_)
              simp only [List.map_cons, List.map_nil, pickO, List.getD_cons_zero, List.getD_cons_succ]
              repeat (go_big_quiet_step (fail))
              refine wpQuiet_nil (h9 _ ?_)
              clear h9 K9
              refine plan_next (plan_end ?_)
              simp only [pickO, List.getD_cons_zero, List.getD_cons_succ]
              have bq8 := HB.out.2.1.below' H8.out.2 (by omega)
              have cq8 : w8.cell? ⟨X1.heap.size, 0, none⟩ = some _ := bq8.cell 0
              have fq8 := bq8.free 0
              have lq8 := bq8.lt
              have HQ8 := Lib.hid bq8
              clear bq8
              go_wp2_with fail
              go_roundw
              case rel => exact ⟨k + 1, _, by omega, by go_num, by rw [HB.out.2.2.2.2.2]; rfl, (HB.out.1.trans (H8.out.2.mono (by omega))).setCell (by simp) _, HQ8.out.set_ 0 _, by rw [HB.out.2.2.2.2.1, HBB.out]; exact H8.out.1.only (S := fun b => b = X1.heap.size) ((Only.refl (fun b => b = X1.heap.size) w8).set_ (p := ⟨X1.heap.size, 0, none⟩) (.inl rfl) _) (fun g hg => by omega) (by have := H8.out.2.size; omega) (fun g hg => by have := (H8.out.1.lt g hg).1; omega)⟩
              case measure => simp [intOf]; omega
          · obtain ⟨a1, a2, a3⟩ := at_fault hl2 Hik.out hflt
            have a4 := fault_has (L := L) (l := its) (i := k) (x := (jkd, jnm, js, jN, (jrn, jrd), (jsn, jsd), iatt))
            rw [if_neg hflt] at hcs hrs
            rw [List.append_nil] at hrs
            rw [HP.out.2] at a1 a2
            rw [HG.out.2.2.2, HG.out.1] at a3
            obtain ⟨e, he⟩ : ∃ e, (fltAt L its k (jkd, jnm, js, jN, (jrn, jrd), (jsn, jsd), iatt)).1 = e := ⟨_, rfl⟩
            obtain ⟨o, ho⟩ : ∃ o, (fltAt L its k (jkd, jnm, js, jN, (jrn, jrd), (jsn, jsd), iatt)).2 = o := ⟨_, rfl⟩
            rw [he, ho] at a2 a3
            rw [he, ho] at a4
            rw [he] at hflt
            have hcz : cntP L its k < gs.length := by rw [HG.out.2.2.1]; exact a1
            generalize cntP L its k = c at *
            obtain ⟨fb, fo, x1, x2, x3, rfl, hfb, Hf, f0, f1, f2, _, _, _⟩ := pick_fa (HY.out.2.2.2.1.keep hlow (Nat.le_refl _)) a1
            obtain ⟨gb, go', y1, y2, y3, rfl, hgb, Hg, g1, g2, g3, _, _, _⟩ := pick_fa (HY.out.2.2.2.2.1.keep hlow (Nat.le_refl _)) hcz
            have e1 := Option.some.inj (Hf.out.symm.trans a2)
            have e2 := Option.some.inj (Hg.out.symm.trans a3)
            simp only [Prod.mk.injEq] at e1 e2
            obtain ⟨rfl, rfl, rfl⟩ := e1
            obtain ⟨rfl, rfl, rfl⟩ := e2
            have hca : (c : Int) < (fs.length : Int) := by omega
            have hcb : (c : Int) < (gs.length : Int) := by omega
            have fbw : fb < wB.heap.size := by omega
            have gbw : gb < wB.heap.size := by omega
            have b0 := HY.out.2.1.below hlow
            have r0 : wB.cell? ⟨w.heap.size, 0, none⟩ = some (.slice (some ⟨ib, io, none⟩) its.length cap) := b0.cell 0
            have l0 := b0.lt
            have HB := Lib.hid (And.intro hlow (And.intro br (And.intro hown (And.intro ig3.out (And.intro hrs hcs)))))
            clear hlow br hown ig3 ig4 jg3 jg4 Hf Hg Hjk hrs hcs a2 a3 b0 he ho bg
            by_cases ho1 : y3 = -1
            · subst ho1
              clear a4
              go_wp2_with fail
              refine wp_region_ext wB (by kernel_rfl) (by kernel_rfl) ?_
              repeat (go_big_quiet_step (fail))
              refine wpQuiet_nil (fun v => ?_)
              go_wp2_with fail
              go_roundw
              case rel => exact ⟨k + 1, _, by omega, by go_num, by rw [HB.out.2.2.2.2.2]; go_num, HB.out.1.trans ((below_ext wB v).mono hzB), HB.out.2.1.ext _, by rw [HB.out.2.2.2.2.1]; exact HB.out.2.2.1.below (below_ext _ _) hzB⟩
              case measure => simp [intOf]; omega
            · have Hhas := Lib.hid (show hasW js y3 = true by
                rcases a4 with h1 | h1 | h1
                · exact absurd h1 ho1
                · exact absurd h1 hflt
                · exact h1)
              have ho2 : (y3 != -1) = true := by simpa using ho1
              clear a4 ho1
              go_wp2_with fail
              refine wp_region_ext wB (by kernel_rfl) (by kernel_rfl) ?_
              repeat (go_big_quiet_step ((go_at_call 24; exact Calls.in_ext (has_any _ _ AW js cw _ _ _ _ _ _ y3 _ w.heap.size (HB.out.2.2.2.1.keep ((below_ext _ _).mono (by have := HY.out.1.size; omega)) (Nat.le_refl _)) (Nat.le_trans (by have := HY.out.1.size; omega) (size_ext _ _)) ig2 true Hhas.out))))
              refine wpQuiet_nil (fun v => ?_)
              go_wp2_with fail
              go_roundw
              case rel => exact ⟨k + 1, _, by omega, by go_num, by rw [HB.out.2.2.2.2.2]; go_num, HB.out.1.trans ((below_ext wB v).mono hzB), HB.out.2.1.ext _, by rw [HB.out.2.2.2.2.1]; exact HB.out.2.2.1.below (below_ext _ _) hzB⟩
              case measure => simp [intOf]; omega
        · obtain rfl : k = its.length := by omega
          have hca := cntP_all (L := L) hl2
          rw [HP.out.2] at hca
          have hcg2 : cntP L its its.length = gs.length := by rw [hca, HG.out.2.2.1]
          have HR := Lib.hid (And.intro hlow (And.intro hown (And.intro hcg2 (rest_none (L := L) (l := its) hl2))))
          obtain ⟨Ar, cr, rfl, hcr, hmr⟩ := hown.form
          have hcr' : cr ≤ 9223372036854775807 := by unfold maxLen at hmr; omega
          have hrl := restTo_len (L := L) (l := its) its.length
          have hRm : ∀ y ∈ restTo L its its.length, ∃ x ∈ its, y.2.2.1 = x.2.2.1 := fun y hy => by
            obtain ⟨i, x, h1, h2, rfl⟩ := restTo_mem hy
            exact ⟨x, List.mem_of_getElem? h2, rfl⟩
          have hrr := rules_len (L := L) (l := restTo L its its.length) (rest_none hl2)
          have HE := Lib.hid (hown.elems (B2 := wB.heap.size) (by omega) (Nat.le_refl _))
          have r0 : wB.cell? ⟨X1.heap.size, 0, none⟩ = some (.slice Ar (restTo L its its.length).length cr) := br.cell 0
          have m0 := br.lt
          have b1 := HY.out.2.2.1.below hlow
          have c1 := b1.cell
          have l1 := b1.lt
          have HRm := Lib.hid (And.intro hRm (And.intro br (rest_none (L := L) (l := its) hl2)))
          have hcc : ((cntP L its its.length : Int) == (gs.length : Int)) = true := by simpa using (show (cntP L its its.length : Int) = gs.length by omega)
          have Hrr := Lib.hid hrr
          clear hrr hRm hca hcg2 hlow br hown hmr b1 bg
          generalize restTo L its its.length = rs at *
          go_upto_region 27 with (go_at_call 12; refine (HC0.out Ar rs cr _ wB.heap.size HE.out (by have := HY.out.1.size; omega) (Nat.le_refl _) (Below.trans0 HY.out.1 HR.out.1) hrl HRm.out.1 hcr hcr').mono ?_; rintro e w' ⟨hbC, A5, c5, A6, c6, he, hr, hf⟩; rw [HRm.out.2.2] at he; subst he; have HC := Lib.hid hbC; clear hbC hr hf)
          have hq2 : (((rulesP L rs).length : Int) == (rs.length : Int)) = true := by
            have := Hrr.out
            simpa using (show ((rulesP L rs).length : Int) = rs.length by omega)
          have r1 : w'.cell? ⟨X1.heap.size, 0, none⟩ = some (.slice Ar rs.length cr) := (HRm.out.2.1.below HC.out).cell 0
          have m1 : X1.heap.size < w'.heap.size := by have := HC.out.size; omega
          go_wp2_with fail
          go_ret
          exact ⟨rfl, Below.alloc0 (Below.trans0 HY.out.1 (Below.trans0 HR.out.1 HC.out)) _⟩
set_option maxRecDepth 100000 in
theorem resolveFaults_lifted (os : Os) (started : os.Started) (H : Type) (enc : TypeId × Value → H) :
    ReturnsInHanded {} Try.checked os 8 .any (Rows.resolveFaultsSpec.pre6 enc Try.prog Try.f8 [] false) (Rows.resolveFaultsSpec.post enc Try.prog Try.f8 false true false false) := by
  refine law_liftedZ (C := Try.checked) own started (by kernel_rfl) Try.func8 rfl (fun ds hds => ?_) (tb := 4) (by kernel_rfl) Try.underlying4 laidOut (fun t ht => ?_)
    (ChangeSpec.witness6 (enc := enc) (C := Try.checked) false ⟨#[], #[.agg #[.slice none 0 0], .agg #[.string ⟨#[]⟩, .int .i64 0, .int .i64 0, .slice none 0 0]], []⟩ 8 (by kernel_rfl) (by kernel_rfl) (by kernel_rfl) (by kernel_rfl)) ?_
  · rw [Try.params8] at hds
    match ds, hds with
    | [_, _], _ => rfl
  · have := List.all_eq_true.1 (show (Try.f8.params.toList.all fun t => Try.prog.readableRec t && decide (t < Try.prog.types.size)) = true by kernel_rfl) t ht
    simp only [Bool.and_eq_true, decide_eq_true_eq] at this
    exact this
  · intro W args g
    rw [Try.params8] at g
    obtain ⟨v0, q0, e0, g0, h0⟩ := g.cons_inv
    obtain ⟨v1, q1, rfl, g1, h1⟩ := h0.cons_inv
    obtain rfl := h1.nil_inv
    obtain rfl : args = #[v0, v1] := by cases args; simp_all
    obtain ⟨c0, y0, rfl, r0⟩ := g0.agg Try.underlying24 opensRules
    obtain ⟨c1, y1, rfl, r1⟩ := g1.agg Try.underlying29 opensHa
    obtain ⟨A, cap, e1, b1, b2, b3⟩ := items_of r0
    obtain ⟨hn, a, b, AH, ch, e2, b4, b5, b6, b7, b8⟩ := hall_of r1
    rw [e1, e2]
    exact faults12 A y0 cap hn a b AH y1.2.2 ch W b3 b7 b1 b2 b4

theorem resolveFaults_holds : Rows.ResolveFaultsSaid :=
  OpenClaim.holds_of_wide 8 Try.f8 rfl rfl rfl rfl rfl rfl rfl ⟨rfl, rfl, rfl, rfl, rfl⟩ rfl rfl rfl rfl rfl (by kernel_rfl) Try.func8 (by kernel_rfl)
    (of_decide_eq_true (by kernel_rfl)) (by unfold Func.isWrapper; first | (rw [if_pos (by decide +kernel)]; kernel_rfl) | (rw [if_neg (by decide +kernel)]; exact ⟨rfl, rfl⟩))
    (fun os started H enc _ => resolveFaults_lifted os started H enc)
#print axioms resolveFaults_holds


end Go.Proofs.Ytecjhniomjmocaa
