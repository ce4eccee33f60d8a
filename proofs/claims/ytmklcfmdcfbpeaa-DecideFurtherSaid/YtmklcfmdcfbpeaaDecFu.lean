/- DecideFurther: what a further rule behind all others changes; for every policy, rule and facts; no condition. -/
import Derived.Test.YtmklcfmdcfbpeaaDecN
import Derived.Test.YtmklcfmdcfbpeaaDecV
import Derived.Test.YtmklcfmdcfbpeaaDecQ
import Derived.Deep.RegionHeld3
import Derived.Deep.DrawnRows
import Derived.Deep.DeepCutAuto
import Derived.Deep.CutBlock
namespace Go.Proofs.Ytmklcfmdcfbpeaa
open Go.RowKit Go.ChangeAt
set_option linter.unusedVariables false
set_option linter.unusedSimpArgs false
attribute [local go_sem] ext_cell ext_frozen lt_ext ext_drew
attribute [local go_sem ↓] Go.wp_at_zero Go.wp_at_succ

theorem set_eq {w : World} {b : Nat} {C C' : Array Value} {t : TypeId} {i : Nat} {u : Value} (h : Bk w b C t) (hC : C.setIfInBounds i u = C') : Bk (w.setCell ⟨b, i, none⟩ u) b C' t := hC ▸ h.set_ i u
theorem set_eq_2 {w : World} {b : Nat} {C C' : Array Value} {t : TypeId} {i0 : Nat} {u0 : Value} {i1 : Nat} {u1 : Value} (h : Bk w b C t) (hC : ((C).setIfInBounds i0 u0).setIfInBounds i1 u1 = C') : Bk (((w).setCell ⟨b, i0, none⟩ u0).setCell ⟨b, i1, none⟩ u1) b C' t := hC ▸ ((h).set_ i0 u0).set_ i1 u1
theorem set_eq_3 {w : World} {b : Nat} {C C' : Array Value} {t : TypeId} {i0 : Nat} {u0 : Value} {i1 : Nat} {u1 : Value} {i2 : Nat} {u2 : Value} (h : Bk w b C t) (hC : (((C).setIfInBounds i0 u0).setIfInBounds i1 u1).setIfInBounds i2 u2 = C') : Bk ((((w).setCell ⟨b, i0, none⟩ u0).setCell ⟨b, i1, none⟩ u1).setCell ⟨b, i2, none⟩ u2) b C' t := hC ▸ (((h).set_ i0 u0).set_ i1 u1).set_ i2 u2
theorem set_eq_4 {w : World} {b : Nat} {C C' : Array Value} {t : TypeId} {i0 : Nat} {u0 : Value} {i1 : Nat} {u1 : Value} {i2 : Nat} {u2 : Value} {i3 : Nat} {u3 : Value} (h : Bk w b C t) (hC : ((((C).setIfInBounds i0 u0).setIfInBounds i1 u1).setIfInBounds i2 u2).setIfInBounds i3 u3 = C') : Bk (((((w).setCell ⟨b, i0, none⟩ u0).setCell ⟨b, i1, none⟩ u1).setCell ⟨b, i2, none⟩ u2).setCell ⟨b, i3, none⟩ u3) b C' t := hC ▸ ((((h).set_ i0 u0).set_ i1 u1).set_ i2 u2).set_ i3 u3
theorem set_eq_5 {w : World} {b : Nat} {C C' : Array Value} {t : TypeId} {i0 : Nat} {u0 : Value} {i1 : Nat} {u1 : Value} {i2 : Nat} {u2 : Value} {i3 : Nat} {u3 : Value} {i4 : Nat} {u4 : Value} (h : Bk w b C t) (hC : (((((C).setIfInBounds i0 u0).setIfInBounds i1 u1).setIfInBounds i2 u2).setIfInBounds i3 u3).setIfInBounds i4 u4 = C') : Bk ((((((w).setCell ⟨b, i0, none⟩ u0).setCell ⟨b, i1, none⟩ u1).setCell ⟨b, i2, none⟩ u2).setCell ⟨b, i3, none⟩ u3).setCell ⟨b, i4, none⟩ u4) b C' t := hC ▸ (((((h).set_ i0 u0).set_ i1 u1).set_ i2 u2).set_ i3 u3).set_ i4 u4
theorem set_eq_6 {w : World} {b : Nat} {C C' : Array Value} {t : TypeId} {i0 : Nat} {u0 : Value} {i1 : Nat} {u1 : Value} {i2 : Nat} {u2 : Value} {i3 : Nat} {u3 : Value} {i4 : Nat} {u4 : Value} {i5 : Nat} {u5 : Value} (h : Bk w b C t) (hC : ((((((C).setIfInBounds i0 u0).setIfInBounds i1 u1).setIfInBounds i2 u2).setIfInBounds i3 u3).setIfInBounds i4 u4).setIfInBounds i5 u5 = C') : Bk (((((((w).setCell ⟨b, i0, none⟩ u0).setCell ⟨b, i1, none⟩ u1).setCell ⟨b, i2, none⟩ u2).setCell ⟨b, i3, none⟩ u3).setCell ⟨b, i4, none⟩ u4).setCell ⟨b, i5, none⟩ u5) b C' t := hC ▸ ((((((h).set_ i0 u0).set_ i1 u1).set_ i2 u2).set_ i3 u3).set_ i4 u4).set_ i5 u5
theorem fu_elems {w X0 X : World} {A8 : Option Addr} {rs : List Rl} {k8 : Nat} {css : List (List Value)} {cells : List Value} {r : Rl} (hw : Below w.heap.size w X0) (hX : Below X0.heap.size X0 X) (h1 : css.length = rs.length)
    (h2 : ∀ i (h1 : i < rs.length) (h2 : i < css.length), tRl.rd X0 w.heap.size css[i] rs[i]) (hr : tRl.rd w w.heap.size cells r) (own : X.ownsRow X0.heap.size 34 8 (.slice A8 (rs.length + 1) k8) (rs.length + 1) (css.flatten ++ cells)) : Elems tRl X X.heap.size A8 (rs ++ [r]) := by
  have hs := hw.size
  have hs2 := hX.size
  have ho : OwnL tRl 34 X X0.heap.size w.heap.size (.slice A8 (rs.length + 1) k8) (rs ++ [r]) := by
    refine ⟨css ++ [cells], by simp [h1], fun i a b => ?_, ?_⟩
    · by_cases hi : i < rs.length
      · rw [List.getElem_append_left hi, List.getElem_append_left (by omega)]
        exact tRl.keep (hX.mono hs) (Nat.le_refl _) (h2 i hi (by omega))
      · have hi2 : i = rs.length := by simp at a; omega
        subst hi2
        have e1 : (rs ++ [r])[rs.length] = r := by simp
        have e2 : (css ++ [cells])[rs.length]'b = cells := by
          rw [List.getElem_append_right (by omega)]
          simp [h1]
        rw [e1, e2]
        exact tRl.keep (hw.trans (hX.mono hs)) (Nat.le_refl _) hr
    · have e1 : (css ++ [cells]).flatten = css.flatten ++ cells := by simp
      rw [e1, List.length_append]
      exact own
  exact ho.elems (by omega) (Nat.le_refl _)
theorem list_lookw {κ : Type} {lit : κ → Lit} {P : Program} {w : World} {ops : Array Oper} {rest : List Oper} {o : Oper} {a : Act} {Q : Exit → Act → World → Prop} {b m : Nat} {f : κ → Option Bool}
    (hw : Region.wanted o (yielded ops a.tmps) = true) (mm x : Operand) (t : TypeId) (hop : o.op = Op.lookup t mm x false) (k e : TypeId) (K : Go.Maps.Keyed P k) (ht : P.underlying t = some (.map k e)) (he : P.underlying e = some .bool) (hz : (zeroValue e).run P w = .ok (.bool false) w)
    (hm : a.eval mm = .map (some b)) (h : MapB lit P k e w b m f) (key : Value) (c : κ) (hx : a.eval x = key) (hkey : keyOf P k key = some (lit c)) (hK : wpList P ops Q rest (a.put o.dst (.bool ((f c).getD false))) w) : wpList P ops Q (o :: rest) a w := by
  unfold wpList
  rw [if_pos hw]
  refine .inl ?_
  have hrun := h.look K ht he hz hkey
  unfold Oper.wp
  simp [execOp, hop, hm, hx, hrun, Result.andThen]
  exact hK
def litI (x : Int) : Lit := .int .i64 x
theorem litI_inj : ∀ x y, litI x = litI y → x = y := fun x y h => by simpa [litI] using h
theorem keyedI : Go.Maps.Keyed Try.prog 3 := Go.Maps.int_keyed Try.underlying3
theorem keyI {x : Int} (h : fits x) : keyOf Try.prog 3 (.int .i64 x) = some (litI x) := Go.Maps.keyOf_int_mk Try.underlying3 (by unfold fits at h; simp [Lit.wf, IntKind.min, IntKind.max, IntKind.signed, IntKind.bits]; omega)
def seenK (f : Fc) (rs : List Rl) (k : Nat) : Int → Option Bool := fun q => if foundK f (rs.take k) q = true then some true else none
theorem seenK_zero (f : Fc) (rs : List Rl) : seenK f rs 0 = fun _ => none := rfl
theorem seenK_step {f : Fc} {rs : List Rl} {k : Nat} {r : Rl} (hr : rs[k]? = some r) : seenK f rs (k + 1) = if holdsB r f = true then putF (seenK f rs k) r.1 true else seenK f rs k := by
  funext q
  unfold seenK
  rw [found_take hr]
  by_cases h : holdsB r f = true
  · rw [if_pos h, h, Bool.and_true]
    unfold putF
    by_cases e : q = r.1
    · subst e; simp
    · rw [if_neg e, decide_eq_false (fun h => e h.symm), Bool.or_false]
  · rw [if_neg h]
    have : holdsB r f = false := by simpa using h
    rw [this, Bool.and_false, Bool.or_false]
theorem seenK_get (f : Fc) (rs : List Rl) (q : Int) : (seenK f rs rs.length q).getD false = foundK f rs q := by
  unfold seenK
  rw [List.take_length]
  cases foundK f rs q <;> rfl
theorem dec_at {A : Option Addr} {rs : List Rl} {cap n : Nat} {f : Fc} {w : World} (h : Elems tRl w w.heap.size A rs) (hn : n = rs.length) (hl : n ≤ 1000) (hf : f.length = 10) (C : Array Value) (hC : dcs (runJ f rs rs.length) = C) : ∀ X, Below w.heap.size w X → Calls Try.prog 16 #[.agg #[.slice A n cap], .agg #[.int .i64 (atF f 0), .int .i64 (atF f 1), .int .i64 (atF f 2), .int .i64 (atF f 3), .int .i64 (atF f 4), .int .i64 (atF f 5), .int .i64 (atF f 6), .int .i64 (atF f 7), .int .i64 (atF f 8), .int .i64 (atF f 9)]] X fun e w' => e = .returned (.agg C) ∧ Below X.heap.size X w' := by
  subst hn
  exact dec_in h hl hf C hC
theorem other_own {w : World} {base : Nat} {e t : TypeId} {size : Nat} {v : Value} {n : Nat} {xs : List Value} {b : Nat} {C : Array Value} (h : w.ownsRow base e size v n xs) (hb : Bk w b C t) (hne : t ≠ e) : some b ≠ v.ownBlock := by
  rcases h.2 with ⟨rfl, _⟩ | ⟨g, cap, cur, rfl, _, h2, _⟩
  · simp [Value.ownBlock]
  · simp only [Value.ownBlock, ne_eq, Option.some.injEq]
    rintro rfl
    have h3 : w.heap[b]? = some (.cells C t) := hb
    cases h2.symm.trans h3
    exact hne rfl
theorem grown_other {w w' : World} {base : Nat} {e t : TypeId} {size : Nat} {v : Value} {n : Nat} {xs : List Value} {b : Nat} {C : Array Value} (hg : w.grownBy w' v.ownBlock) (h : w.ownsRow base e size v n xs) (hb : Bk w b C t) (hne : t ≠ e) : Bk w' b C t := grown_bk hg hb (other_own h hb hne)
set_option maxRecDepth 100000 in
set_option maxHeartbeats 16000000 in
theorem further13 (A : Option Addr) (rs : List Rl) (cap : Nat) (kd : Int) (nm : ByteArray) (AZ : Option Addr) (zs : List Zn) (zc : Nat) (num rn rd sn sd : Int) (f : Fc) (w : World) (h : Elems tRl w w.heap.size A rs) (hm : rs.length ≤ 9223372036854775807)
    (hr : tRl.rd w w.heap.size [.int .i64 kd, .string nm, .slice AZ zs.length zc, .int .i64 num, .int .i64 rn, .int .i64 rd, .int .i64 sn, .int .i64 sd] (kd, nm, zs, num, (rn, rd), (sn, sd))) (hZ : Elems tZn w w.heap.size AZ zs) (hf : f.length = 10) :
    Calls Try.prog 6 #[.agg #[.slice A rs.length cap], .agg #[.int .i64 kd, .string nm, .slice AZ zs.length zc, .int .i64 num, .int .i64 rn, .int .i64 rd, .int .i64 sn, .int .i64 sd], .agg (fcV f)] w fun e w' => e = .returned (.bool true) ∧ Below w.heap.size w w' := by
  rw [fcV_cells hf]
  have HH := Lib.hid h
  have HF := Lib.hid hf
  have HR := Lib.hid hr
  have HZ0 := Lib.hid hZ
  have hww : w.heap.size ≤ w.heap.size := Nat.le_refl _
  clear h hf hr hZ
  go_enter Try.func6, Try.ntmps6
  go_wp2_with fail
  refine (head_any _).mono ?_
  rintro e w1 ⟨rfl, hb⟩
  have HB := Lib.hid hb
  clear hb
  go_upto_region 2 with (fail)
  refine forget (fun W => Below w.heap.size w W ∧ Bk W w.heap.size #[.slice A rs.length cap] 24 ∧ Bk W (w.heap.size + 1) #[.int .i64 kd, .string nm, .slice AZ zs.length zc, .int .i64 num, .int .i64 rn, .int .i64 rd, .int .i64 sn, .int .i64 sd] 34 ∧ Bk W (w.heap.size + 2) #[.int .i64 (atF f 0), .int .i64 (atF f 1), .int .i64 (atF f 2), .int .i64 (atF f 3), .int .i64 (atF f 4), .int .i64 (atF f 5), .int .i64 (atF f 6), .int .i64 (atF f 7), .int .i64 (atF f 8), .int .i64 (atF f 9)] 26) ⟨Below.trans0 (Below.alloc0 (Below.alloc0 (below_self w _) _) _) HB.out, (((Bk.new w _ _).alloc _).alloc _).below HB.out, ((bk_new_at _ _ _ _ (by simp)).alloc _).below HB.out, (bk_new_at _ _ _ _ (by simp)).below HB.out⟩ ?_
  clear HB
  rintro W ⟨hw, b0, b1, b2⟩
  have c0 := b0.cell
  have c1 := b1.cell
  have l0 := b0.lt
  have l1 := b1.lt
  have HW := Lib.hid (And.intro hw (And.intro b0 (And.intro b1 b2)))
  clear hw b0 b1 b2
  obtain ⟨q, hq⟩ : ∃ v, fewP rs 60 = v := ⟨_, rfl⟩
  have HQ := Lib.hid hq
  clear hq
  cases q
  · go_wp2_with (go_at_call 11; refine (few_60 HH.out _ HQ.out _ HW.out.1).mono ?_; rintro e w' ⟨rfl, hb⟩; (first | (obtain ⟨u, rfl⟩ := ext_more hb; clear hb) | (obtain ⟨u, rfl⟩ := ext_more_alloc hb; clear hb) | (obtain ⟨u, rfl⟩ := ext_of hb; clear hb)))
    go_ret
    exact ⟨rfl, by have hw := HW.out.1; (repeat (first | with_reducible exact Below.refl _ _ | with_reducible assumption | with_reducible refine Below.alloc0 ?_ _ | with_reducible refine Below.ext0 ?_ _ | with_reducible refine Below.drew ?_ | with_reducible refine below_drewN ?_ _ | (with_reducible refine Below.setCell (hp := ?hp) ?_ _; case hp => (first | (simp; done) | (simp; omega)))))⟩
  · have hlen : rs.length ≤ 60 := by
      have := HQ.out
      unfold fewP at this
      simp only [Bool.and_eq_true, decide_eq_true_eq] at this
      exact this.1
    have hlen' : (rs.length : Int) ≤ 60 := by omega
    by_cases h30 : 30 < (zs.length : Int)
    · go_wp2_with (go_at_call 11; refine (few_60 HH.out _ HQ.out _ HW.out.1).mono ?_; rintro e w' ⟨rfl, hb⟩; (first | (obtain ⟨u, rfl⟩ := ext_more hb; clear hb) | (obtain ⟨u, rfl⟩ := ext_more_alloc hb; clear hb) | (obtain ⟨u, rfl⟩ := ext_of hb; clear hb)))
      go_ret
      exact ⟨rfl, by have hw := HW.out.1; (repeat (first | with_reducible exact Below.refl _ _ | with_reducible assumption | with_reducible refine Below.alloc0 ?_ _ | with_reducible refine Below.ext0 ?_ _ | with_reducible refine Below.drew ?_ | with_reducible refine below_drewN ?_ _ | (with_reducible refine Below.setCell (hp := ?hp) ?_ _; case hp => (first | (simp; done) | (simp; omega)))))⟩
    · have hz30 : (zs.length : Int) ≤ 30 := by omega
      have hz30b : zs.length ≤ 30 := by omega
      clear h30
      go_upto_region 4 with (go_at_call 11; refine (few_60 HH.out _ HQ.out _ HW.out.1).mono ?_; rintro e w' ⟨rfl, hb⟩; (first | (obtain ⟨u, rfl⟩ := ext_more hb; clear hb) | (obtain ⟨u, rfl⟩ := ext_more_alloc hb; clear hb) | (obtain ⟨u, rfl⟩ := ext_of hb; clear hb)))
      refine forget (fun X => Below w.heap.size w X ∧ Bk X w.heap.size #[.slice A rs.length cap] 24 ∧ Bk X (w.heap.size + 1) #[.int .i64 kd, .string nm, .slice AZ zs.length zc, .int .i64 num, .int .i64 rn, .int .i64 rd, .int .i64 sn, .int .i64 sd] 34 ∧ Bk X (w.heap.size + 2) #[.int .i64 (atF f 0), .int .i64 (atF f 1), .int .i64 (atF f 2), .int .i64 (atF f 3), .int .i64 (atF f 4), .int .i64 (atF f 5), .int .i64 (atF f 6), .int .i64 (atF f 7), .int .i64 (atF f 8), .int .i64 (atF f 9)] 26) ⟨by have hw := HW.out.1; (repeat (first | with_reducible exact Below.refl _ _ | with_reducible assumption | with_reducible refine Below.alloc0 ?_ _ | with_reducible refine Below.ext0 ?_ _ | with_reducible refine Below.drew ?_ | with_reducible refine below_drewN ?_ _ | (with_reducible refine Below.setCell (hp := ?hp) ?_ _; case hp => (first | (simp; done) | (simp; omega))))), HW.out.2.1.ext _, HW.out.2.2.1.ext _, HW.out.2.2.2.ext _⟩ ?_
      clear c0 c1 l0 l1 HW HQ
      rintro X0 ⟨hw, b0, b1, b2⟩
      obtain ⟨css, k1, k2, k3, k4, k5⟩ := (HH.out.keep hw (Nat.le_refl _)).flat
      obtain ⟨ir, zr, i1, i2, i3, i4, i5⟩ := info_of (P := Try.prog) (e := 34) (size := 8) (bytes := 88) (c := 8) (by kernel_rfl)
      have HK := Lib.hid (And.intro k1 (And.intro k2 (And.intro k3 (And.intro k4 k5))))
      have I := Lib.hid (And.intro i1 (And.intro i2 (And.intro i3 (And.intro i4 i5))))
      have HX := Lib.hid (And.intro hw (And.intro b0 (And.intro b1 b2)))
      have HS : Hid (∀ W', Below X0.heap.size X0 W' → (W'.cell? ⟨w.heap.size, 0, none⟩ = some (.slice A rs.length cap) ∧ W'.cell? ⟨w.heap.size + 1, 0, none⟩ = some (.int .i64 kd) ∧ W'.cell? ⟨w.heap.size + 1, 1, none⟩ = some (.string nm) ∧ W'.cell? ⟨w.heap.size + 1, 2, none⟩ = some (.slice AZ zs.length zc) ∧ W'.cell? ⟨w.heap.size + 1, 3, none⟩ = some (.int .i64 num) ∧ W'.cell? ⟨w.heap.size + 1, 4, none⟩ = some (.int .i64 rn) ∧ W'.cell? ⟨w.heap.size + 1, 5, none⟩ = some (.int .i64 rd) ∧ W'.cell? ⟨w.heap.size + 1, 6, none⟩ = some (.int .i64 sn) ∧ W'.cell? ⟨w.heap.size + 1, 7, none⟩ = some (.int .i64 sd))) := Lib.hid fun W' hB =>
        ⟨(b0.below hB).cell 0, (b1.below hB).cell 0, (b1.below hB).cell 1, (b1.below hB).cell 2, (b1.below hB).cell 3, (b1.below hB).cell 4, (b1.below hB).cell 5, (b1.below hB).cell 6, (b1.below hB).cell 7⟩
      have hws : w.heap.size ≤ X0.heap.size := hw.size
      clear hw b0 b1 b2 k1 k2 k3 k4 k5 i1 i2 i3 i4 i5
      go_cut [8] (fun v X => ∃ (pb c9 : Nat) (A9 : Option Addr), v = .pointer (some ⟨pb, 0, none⟩) ∧ X0.heap.size ≤ pb ∧ Bk X pb #[.slice A9 (rs.length + 1) c9] 24 ∧ Elems tRl X X.heap.size A9 (rs ++ [(kd, nm, zs, num, (rn, rd), (sn, sd))]) ∧ Below X0.heap.size X0 X)
      case first =>
        go_region_held3 (fun W' => (W'.cell? ⟨w.heap.size, 0, none⟩ = some (.slice A rs.length cap) ∧ W'.cell? ⟨w.heap.size + 1, 0, none⟩ = some (.int .i64 kd) ∧ W'.cell? ⟨w.heap.size + 1, 1, none⟩ = some (.string nm) ∧ W'.cell? ⟨w.heap.size + 1, 2, none⟩ = some (.slice AZ zs.length zc) ∧ W'.cell? ⟨w.heap.size + 1, 3, none⟩ = some (.int .i64 num) ∧ W'.cell? ⟨w.heap.size + 1, 4, none⟩ = some (.int .i64 rn) ∧ W'.cell? ⟨w.heap.size + 1, 5, none⟩ = some (.int .i64 rd) ∧ W'.cell? ⟨w.heap.size + 1, 6, none⟩ = some (.int .i64 sn) ∧ W'.cell? ⟨w.heap.size + 1, 7, none⟩ = some (.int .i64 sd)))
          ((apply HS.out; (repeat (first | with_reducible exact Below.refl _ _ | with_reducible assumption | with_reducible refine Below.alloc0 ?_ _ | with_reducible refine Below.drew ?_ | with_reducible refine Below.trans ?_ (by with_reducible assumption) | with_reducible refine Below.alloc ?_ ?_ _ | (with_reducible refine Below.setCell ?_ ?_ _) | (show (_ : Nat) ≤ _; first | omega | (simp; done) | (simp; omega)))); all_goals fail))
          ((first
            | (refine step_append (by rfl) _ _ _ (by rfl) X0.heap.size 34 ir zr 8 88 Try.underlying22 I.out.1 I.out.2.1 I.out.2.2.1 I.out.2.2.2.1 I.out.2.2.2.2 (by decide) 0 [] (by rfl) (own_empty (by (first | exact Bk.new _ _ _ | exact bk_new_at _ _ _ _ (by simp) | exact (Bk.new _ _ _).drew | exact (bk_new_at _ _ _ _ (by simp)).drew | exact (Bk.new _ _ _).alloc _ | exact (bk_new_at _ _ _ _ (by simp)).alloc _ | exact ((Bk.new _ _ _).drew).alloc _ | exact ((Bk.new _ _ _).alloc _).drew | exact ((bk_new_at _ _ _ _ (by simp)).alloc _).drew | exact ((Bk.new _ _ _).alloc _).alloc _ | exact (((Bk.new _ _ _).alloc _).alloc _).drew)) (by first | omega | (simp; done) | (simp; omega))) A rs.length cap css.flatten (by rfl) HK.out.2.2.2.1
                (lies_of HK.out.2.2.2.2 (B := w.heap.size) (by (repeat (first | with_reducible exact Below.refl _ _ | with_reducible assumption | with_reducible refine Below.alloc0 ?_ _ | with_reducible refine Below.drew ?_ | with_reducible refine Below.trans ?_ (by with_reducible assumption) | with_reducible refine Below.alloc ?_ ?_ _ | (with_reducible refine Below.setCell ?_ ?_ _) | (show (_ : Nat) ≤ _; first | omega | (simp; done) | (simp; omega)))))) (one_flat (one_rl _ _) HK.out.1 HK.out.2.1) (by unfold maxLen; omega) (by omega) (by first | omega | (simp; done) | (simp; omega)) rs.length css.flatten (by simp) (by simp) ?_; intro A7 k7 w7 own7 hbel7 hgr7
               have s7 : X0.heap.size ≤ w7.heap.size := by (have h := hbel7.size; simp at h; omega)
               try (have bx : Bk w7 _ #[.int .i64 kd, .string nm, .slice AZ zs.length zc, .int .i64 num, .int .i64 rn, .int .i64 rd, .int .i64 sn, .int .i64 sd] 34 := grown_bk hgr7 (by (first | exact Bk.new _ _ _ | exact bk_new_at _ _ _ _ (by simp) | exact (Bk.new _ _ _).drew | exact (bk_new_at _ _ _ _ (by simp)).drew | exact (Bk.new _ _ _).alloc _ | exact (bk_new_at _ _ _ _ (by simp)).alloc _ | exact ((Bk.new _ _ _).drew).alloc _ | exact ((Bk.new _ _ _).alloc _).drew | exact ((bk_new_at _ _ _ _ (by simp)).alloc _).drew | exact ((Bk.new _ _ _).alloc _).alloc _ | exact (((Bk.new _ _ _).alloc _).alloc _).drew)) (by first | (simp [Value.ownBlock]; done) | (simp [Value.ownBlock]; omega)))
               try (have bp7 : Bk w7 _ #[.slice none 0 0] 24 := grown_bk hgr7 (by (first | exact Bk.new _ _ _ | exact bk_new_at _ _ _ _ (by simp) | exact (Bk.new _ _ _).drew | exact (bk_new_at _ _ _ _ (by simp)).drew | exact (Bk.new _ _ _).alloc _ | exact (bk_new_at _ _ _ _ (by simp)).alloc _ | exact ((Bk.new _ _ _).drew).alloc _ | exact ((Bk.new _ _ _).alloc _).drew | exact ((bk_new_at _ _ _ _ (by simp)).alloc _).drew | exact ((Bk.new _ _ _).alloc _).alloc _ | exact (((Bk.new _ _ _).alloc _).alloc _).drew)) (by first | (simp [Value.ownBlock]; done) | (simp [Value.ownBlock]; omega)))
               try (simp at bx)
               try (simp at bp7))
            | (refine step_append (v := .slice A7 rs.length k7) (by rfl) _ _ _ (by rfl) X0.heap.size 34 ir zr 8 88 Try.underlying22 I.out.1 I.out.2.1 I.out.2.2.1 I.out.2.2.2.1 I.out.2.2.2.2 (by decide) rs.length css.flatten (by rfl)
                (by (first | with_reducible exact own7 | with_reducible exact own_alloc own7 _ | with_reducible exact own_alloc (own_alloc own7 _) _)) (some ⟨_, 0, none⟩) 1 1 [.int .i64 kd, .string nm, .slice AZ zs.length zc, .int .i64 num, .int .i64 rn, .int .i64 rd, .int .i64 sn, .int .i64 sd] (by rfl) (by rfl)
                (lies_bk (C := #[.int .i64 kd, .string nm, .slice AZ zs.length zc, .int .i64 num, .int .i64 rn, .int .i64 rd, .int .i64 sn, .int .i64 sd]) (t := 34) (by (first | with_reducible exact bx | with_reducible exact bp7 | exact Bk.new _ _ _ | exact (Bk.new _ _ _).drew | exact (Bk.new _ _ _).alloc _ | exact ((Bk.new _ _ _).alloc _).drew | exact bk_next _ _ _ _ | with_reducible exact bx.alloc _ | with_reducible exact bp7.alloc _)) 1) (by simp [Value.oneCell']) (by unfold maxLen; omega) (by omega) (by first | omega | (simp; done) | (simp; omega)) (rs.length + 1) (css.flatten ++ [.int .i64 kd, .string nm, .slice AZ zs.length zc, .int .i64 num, .int .i64 rn, .int .i64 rd, .int .i64 sn, .int .i64 sd]) (by rfl) (by rfl) ?_; intro A8 k8 w8 own8 hbel8 hgr8
               change World.grownBy _ w8 (Value.ownBlock (Value.slice A7 rs.length k7)) at hgr8
               have s8 : w7.heap.size ≤ w8.heap.size := by (first | exact hbel8.size | (have h := hbel8.size; simp at h; omega))
               try (have bp8 : Bk w8 _ #[.slice none 0 0] 24 := grown_other hgr8 (by (first | with_reducible exact own7 | with_reducible exact own_alloc own7 _ | with_reducible exact own_alloc (own_alloc own7 _) _)) (by (first | with_reducible exact bx | with_reducible exact bp7 | exact Bk.new _ _ _ | exact (Bk.new _ _ _).drew | exact (Bk.new _ _ _).alloc _ | exact ((Bk.new _ _ _).alloc _).drew | exact bk_next _ _ _ _ | with_reducible exact bx.alloc _ | with_reducible exact bp7.alloc _)) (by decide)
                    have c8 := bp8.cell 0
                    have f8 := bp8.free 0
                    have l8 := bp8.lt
                    simp at c8 f8 l8))))
        all_goals go_wp2_with fail
        all_goals go_meet
        all_goals have hB8 : Below X0.heap.size X0 w8 := by (repeat (first | with_reducible exact Below.refl _ _ | with_reducible assumption | with_reducible refine Below.alloc0 ?_ _ | with_reducible refine Below.drew ?_ | with_reducible refine Below.trans ?_ (by with_reducible assumption) | with_reducible refine Below.alloc ?_ ?_ _ | (with_reducible refine Below.setCell ?_ ?_ _) | (show (_ : Nat) ≤ _; first | omega | (simp; done) | (simp; omega))))
        all_goals have hws8 := hB8.size
        all_goals first
          | exact ⟨w8.heap.size, k8, A8, rfl, hws8, Bk.new _ _ _, fu_elems HX.out.1 (hB8.alloc hws8 _) HK.out.1 HK.out.2.1 HR.out (own_alloc own8 _), hB8.alloc hws8 _⟩
          | (have bq := bp8
             try simp at bq
             have hne := other_own own8 bq (by decide)
             exact ⟨_, k8, A8, rfl, by first | omega | (simp; omega), bq.set_ 0 _, fu_elems HX.out.1 (hB8.setCell (by first | omega | (simp; omega) | (simp; done)) _) HK.out.1 HK.out.2.1 HR.out (own_only own8 ((Only.refl (fun g => some g ≠ (Value.slice A8 (rs.length + 1) k8).ownBlock) w8).set_ (.inl hne) _) (fun g hg h => h hg.symm)), hB8.setCell (by first | omega | (simp; omega) | (simp; done)) _⟩)
      case rest =>
      -- REST
      obtain ⟨Y, hY9⟩ : ∃ Y, Y = wc := ⟨_, rfl⟩
      rw [← hY9] at hcut ⊢
      obtain ⟨pb, c9, A9, rfl, hpb, bq, hE9, hlow⟩ := hcut
      clear hY9 HS HK I
      have hYw := hlow.mono hws
      have hw : Below w.heap.size w Y := HX.out.1.trans hYw
      have b0 := HX.out.2.1.below hlow
      have b1 := HX.out.2.2.1.below hlow
      have b2 := HX.out.2.2.2.below hlow
      obtain ⟨lim, price, fn, fd, tn, td, cn, cd, un, ud, vn, vd, y, e1, e2, e3⟩ := further_lit f rs kd nm zs num rn rd sn sd
      obtain ⟨F1, hF1⟩ : ∃ v, foundK f rs 1 = v := ⟨_, rfl⟩
      obtain ⟨F2, hF2⟩ : ∃ v, foundK f rs 2 = v := ⟨_, rfl⟩
      obtain ⟨F3, hF3⟩ : ∃ v, foundK f rs 3 = v := ⟨_, rfl⟩
      obtain ⟨F4, hF4⟩ : ∃ v, foundK f rs 4 = v := ⟨_, rfl⟩
      obtain ⟨F5, hF5⟩ : ∃ v, foundK f rs 5 = v := ⟨_, rfl⟩
      obtain ⟨F6, hF6⟩ : ∃ v, foundK f rs 6 = v := ⟨_, rfl⟩
      obtain ⟨F7, hF7⟩ : ∃ v, foundK f rs 7 = v := ⟨_, rfl⟩
      simp only [hF1, hF2, hF3, hF4, hF5, hF6, hF7] at e1 e2 e3
      have HFF := Lib.hid (And.intro hF1 (And.intro hF2 (And.intro hF3 (And.intro hF4 hF5))))
      have HC1 : Hid (dcs (runJ f rs rs.length) = #[.bool (F1 && F3 && !F2), .bool F6, .bool F7, .int .i64 lim, .int .i64 price, .int .i64 fn, .int .i64 fd, .int .i64 tn, .int .i64 td, .int .i64 cn, .int .i64 cd, .int .i64 un, .int .i64 ud, .int .i64 vn, .int .i64 vd, .int .i64 y]) := Lib.hid e1
      obtain ⟨hv, hhv⟩ : ∃ v, (zs.any fun z => inZ z f) = v := ⟨_, rfl⟩
      have Hhv := Lib.hid hhv
      rw [hhv] at e2 e3
      have hl1 : rs.length ≤ 1000 := by omega
      have hzl : zs.length ≤ 9223372036854775807 := by omega
      have hYl := hw.size
      have HW := Lib.hid (And.intro hw (And.intro b0 (And.intro b1 (And.intro b2 bq))))
      have HE9 := Lib.hid hE9
      have c0 := b0.cell
      have c1 := b1.cell
      have c2 := b2.cell
      have c3 := bq.cell
      have l0 := b0.lt
      have l1 := b1.lt
      have l2 := b2.lt
      have l3 := bq.lt
      have hb2 : w.heap.size + 2 < Y.heap.size := l2
      clear hlow hYw hw b0 b1 b2 bq hE9 e1 hF1 hF2 hF3 hF4 hF5 hF6 hF7 hhv HX
      go_upto_region 6 with (go_at_call 16; refine (dec_in HH.out hl1 HF.out _ HC1.out _ HW.out.1).mono ?_; rintro e w' ⟨rfl, hb⟩; (first | (obtain ⟨u, rfl⟩ := ext_more hb; clear hb) | (obtain ⟨u, rfl⟩ := ext_more_alloc hb; clear hb) | (obtain ⟨u, rfl⟩ := ext_of hb; clear hb)))
      refine forget (fun X => Below Y.heap.size Y X ∧ Bk X (ext Y u).heap.size #[.bool (F1 && F3 && !F2), .bool F6, .bool F7, .int .i64 lim, .int .i64 price, .int .i64 fn, .int .i64 fd, .int .i64 tn, .int .i64 td, .int .i64 cn, .int .i64 cd, .int .i64 un, .int .i64 ud, .int .i64 vn, .int .i64 vd, .int .i64 y] 37 ∧ Y.heap.size ≤ (ext Y u).heap.size) ⟨by (repeat (first | with_reducible exact Below.refl _ _ | with_reducible assumption | with_reducible refine Below.alloc0 ?_ _ | with_reducible refine Below.ext0 ?_ _ | with_reducible refine Below.drew ?_ | with_reducible refine below_drewN ?_ _ | (with_reducible refine Below.setCell (hp := ?hp) ?_ _; case hp => (first | (simp; done) | (simp; omega))))), Bk.new _ _ _, size_ext _ _⟩ ?_
      generalize (ext Y u).heap.size = p1 at *
      rintro Z1 ⟨hz, bp1, hp1⟩
      obtain ⟨ok2, tg2, si2, lim2, price2, fn2, fd2, tn2, td2, cn2, cd2, un2, ud2, vn2, vd2, y2, hC2⟩ := dcs_lit (runJ f (rs ++ [(kd, nm, zs, num, (rn, rd), (sn, sd))]) (rs ++ [(kd, nm, zs, num, (rn, rd), (sn, sd))]).length)
      have HC2 := Lib.hid hC2
      rw [hC2] at e2 e3
      have he2 := Lib.hid e2
      have he3 := Lib.hid e3
      have d0 := (HW.out.2.1.below hz).cell
      have d1 := (HW.out.2.2.1.below hz).cell
      have d2 := (HW.out.2.2.2.1.below hz).cell
      have d3 := (HW.out.2.2.2.2.below hz).cell
      have m0 := (HW.out.2.1.below hz).lt
      have m1 := (HW.out.2.2.1.below hz).lt
      have m2 := (HW.out.2.2.2.1.below hz).lt
      have m3 := (HW.out.2.2.2.2.below hz).lt
      have hz1 := hz.size
      have HZ := Lib.hid (And.intro hz bp1)
      clear hz bp1 c0 c1 c2 c3 l0 l1 l2 l3 hC2 e2 e3
      as_aux_lemma =>
      go_upto_region 7 with (go_at_call 16; refine (dec_at HE9.out (by simp) (by simp; omega) HF.out _ HC2.out _ HZ.out.1).mono ?_; rintro e w' ⟨rfl, hb⟩; obtain ⟨u2, rfl⟩ := ext_of hb; clear hb)
      refine forget (fun X => Below Z1.heap.size Z1 X ∧ Bk X (ext Z1 u2).heap.size #[.bool ok2, .bool tg2, .bool si2, .int .i64 lim2, .int .i64 price2, .int .i64 fn2, .int .i64 fd2, .int .i64 tn2, .int .i64 td2, .int .i64 cn2, .int .i64 cd2, .int .i64 un2, .int .i64 ud2, .int .i64 vn2, .int .i64 vd2, .int .i64 y2] 37 ∧ Z1.heap.size ≤ (ext Z1 u2).heap.size) ⟨by (repeat (first | with_reducible exact Below.refl _ _ | with_reducible assumption | with_reducible refine Below.alloc0 ?_ _ | with_reducible refine Below.ext0 ?_ _ | with_reducible refine Below.drew ?_ | with_reducible refine below_drewN ?_ _ | (with_reducible refine Below.setCell (hp := ?hp) ?_ _; case hp => (first | (simp; done) | (simp; omega))))), Bk.new _ _ _, size_ext _ _⟩ ?_
      generalize (ext Z1 u2).heap.size = p2 at *
      rintro Z2 ⟨hz2, bp2, hp2⟩
      have k0 := (HW.out.2.1.below HZ.out.1).below hz2
      have k1 := (HW.out.2.2.1.below HZ.out.1).below hz2
      have k2 := (HW.out.2.2.2.1.below HZ.out.1).below hz2
      have k3 := HZ.out.2.below hz2
      have HB2 := Lib.hid (And.intro k0 (And.intro k1 (And.intro k2 (And.intro k3 bp2))))
      have hlw : Below w.heap.size w Z2 := (HW.out.1.trans (HZ.out.1.mono hYl)).trans (hz2.mono (by omega))
      have HL2 := Lib.hid hlw
      have hlz := hlw.size
      have hp12 : p1 ≠ p2 := by have := HZ.out.2.lt; omega
      have hb12 : w.heap.size + 2 < p1 := by omega
      have i0 := k0.cell
      have i1 := k1.cell
      have i2 := k2.cell
      have i3 := k3.cell
      have i4 := bp2.cell
      have j0 := k0.lt
      have j1 := k1.lt
      have j2 := k2.lt
      have j3 := k3.lt
      have j4 := bp2.lt
      clear hz2 bp2 hlw k0 k1 k2 k3 d0 d1 d2 d3 m0 m1 m2 m3 HZ HW HE9 HC1 HC2
      as_aux_lemma =>
      cases hv
      · have e := he2.out rfl
        unfold decV at e
        simp only [Array.mk.injEq, List.cons.injEq, Value.bool.injEq, Value.int.injEq, true_and, and_true] at e
        obtain ⟨rfl, rfl, rfl, rfl, rfl, rfl, rfl, rfl, rfl, rfl, rfl, rfl, rfl, rfl, rfl, rfl⟩ := e
        go_wp2_with (go_at_call 12; refine (holds_in HZ0.out hww hzl HF.out _ Hhv.out _ HL2.out).mono ?_; rintro e w' ⟨rfl, hb⟩; obtain ⟨u3, rfl⟩ := ext_of hb; clear hb)
        go_ret
        exact ⟨rfl, Below.ext0 HL2.out _⟩
      · have hmm := @run_makeMap Try.prog
        go_upto_region 10 with (go_at_call 12; refine (holds_in HZ0.out hww hzl HF.out _ Hhv.out _ HL2.out).mono ?_; rintro e w' ⟨rfl, hb⟩; obtain ⟨u3, rfl⟩ := ext_of hb; clear hb)
        refine forget (fun X => Below Z2.heap.size Z2 X ∧ MapB litI Try.prog 3 4 X (ext Z2 u3).heap.size 0 (fun _ => none) ∧ Z2.heap.size ≤ (ext Z2 u3).heap.size) ⟨by (repeat (first | with_reducible exact Below.refl _ _ | with_reducible assumption | with_reducible refine Below.alloc0 ?_ _ | with_reducible refine Below.ext0 ?_ _ | with_reducible refine Below.drew ?_ | with_reducible refine below_drewN ?_ _ | (with_reducible refine Below.setCell (hp := ?hp) ?_ _; case hp => (first | (simp; done) | (simp; omega))))), MapB.new _ _ _ _ _, size_ext _ _⟩ ?_
        generalize (ext Z2 u3).heap.size = mb at *
        rintro Z3 ⟨hz3, hmp, hmb⟩
        have k0 := HB2.out.1.below hz3
        have k1 := HB2.out.2.1.below hz3
        have k2 := HB2.out.2.2.1.below hz3
        have k3 := HB2.out.2.2.2.1.below hz3
        have k4 := HB2.out.2.2.2.2.below hz3
        have n3 := HB2.out.2.2.2.1.lt
        have n4 := HB2.out.2.2.2.2.lt
        have hlw := HL2.out.trans (hz3.mono hlz)
        have HB3 := Lib.hid (And.intro k0 (And.intro k1 (And.intro k2 (And.intro k3 k4))))
        have HL3 := Lib.hid hlw
        have HM3 := Lib.hid hmp
        have hl3 := hlw.size
        have i5 := k0.cell
        clear hmm hz3 hmp k0 k1 k2 k3 k4 hlw HB2 HL2 i0 i1 i2 i3 i4 j0 j1 j2 j3 j4
        as_aux_lemma =>
        go_wp2_with fail
        go_loopw [12] (fun i wr => ∃ (k m : Nat), k ≤ rs.length ∧ i = .int .i64 k ∧ MapB litI Try.prog 3 4 wr mb m (seenK f rs k) ∧ m ≤ k ∧ Only (fun g => g = mb) Z3 wr) (fun i _ => rs.length - (intOf i).toNat)
        case atStart => exact ⟨0, 0, by omega, rfl, by rw [seenK_zero]; exact HM3.out, by omega, Only.refl _ _⟩
        case round =>
          obtain ⟨k, m, hk, rfl, hmp, hmk, hon⟩ := hrel
          have b0 := HB3.out.1.only hon (by omega)
          have b2 := HB3.out.2.2.1.only hon (by omega)
          have hlw := HL3.out.trans (hon.to_below (B := w.heap.size) (fun g hg => by omega) (by omega))
          have hE := HH.out.keep hlw (Nat.le_refl _)
          have hbr := hlw.size
          have i0 := b0.cell
          have i2 := b2.cell
          have j0 := b0.lt
          have j2 := b2.lt
          have jm := hmp.lt
          have HO := Lib.hid hon
          have HM := Lib.hid hmp
          have HL := Lib.hid hlw
          clear b0 b2 hon hmp hlw
          by_cases hlt : k < rs.length
          · obtain ⟨b, off, kd1, nm1, AZ1, zs1, zc1, num1, rn1, rd1, sn1, sd1, rfl, hb, Hk, g0, g1, g2, g3, g4, g5, g6, g7, f1, f2, f3, hZ1, fk, _⟩ := pick_rule hE hlt
            have bw : b < wr.heap.size := by omega
            have bm : b ≠ mb := by omega
            have hzl1 : zs1.length ≤ 9223372036854775807 := by unfold maxLen at f3; omega
            have hkl : (k : Int) < (rs.length : Int) := by omega
            obtain ⟨hv1, hhv1⟩ : ∃ v, (zs1.any fun z => inZ z f) = v := ⟨_, rfl⟩
            have Hhv1 := Lib.hid hhv1
            have HZ1 := Lib.hid hZ1
            have HFk := Lib.hid fk
            have Hst := Lib.hid (seenK_step (f := f) Hk.out)
            clear hE hZ1 f1 f2 f3 fk hhv1
            cases hv1
            · have Hno : Hid (seenK f rs (k + 1) = seenK f rs k) := Lib.hid (by rw [Hst.out, if_neg (by unfold holdsB; dsimp only; rw [Hhv1.out]; decide)])
              go_wp2_with fail
              refine wp_region_ext wr (by kernel_rfl) (by kernel_rfl) ?_
              repeat (go_big_quiet_step ((go_at_call 12; exact Calls.in_ext (holds_in HZ1.out hbr hzl1 HF.out _ Hhv1.out _ (below_ext _ _)))))
              refine wpQuiet_nil (fun v => ?_)
              go_wp2_with fail
              go_roundw
              case rel => exact ⟨k + 1, m, by omega, by go_num, by rw [Hno.out]; exact HM.out.below (below_ext _ _), by omega, HO.out.trans (Only.of_below (below_ext _ _))⟩
              case measure => simp [intOf]; omega
            · have Hyes : Hid (seenK f rs (k + 1) = putF (seenK f rs k) kd1 true) := Lib.hid (by rw [Hst.out, if_pos (by unfold holdsB; dsimp only; rw [Hhv1.out])])
              have hml : m < maxLen := by unfold maxLen; omega
              go_wp2_with fail
              refine wp_region_ext wr (by kernel_rfl) (by kernel_rfl) ?_
              repeat (go_big_quiet_step ((go_at_call 12; exact Calls.in_ext (holds_in HZ1.out hbr hzl1 HF.out _ Hhv1.out _ (below_ext _ _)))))
              refine wpQuiet_nil (fun v => ?_)
              have HM1 := Lib.hid (HM.out.below (below_ext wr v))
              go_wp2_with (at_mapUpdate; refine list_store rfl _ _ _ _ rfl 3 4 keyedI Try.underlying45 Try.underlying4 litI_inj hml rfl HM1.out _ kd1 rfl (keyI HFk.out) _ rfl ?_; intro w2 hm2 ho2; have HQ := Lib.hid (And.intro hm2 ho2); clear hm2 ho2)
              go_roundw
              case rel => exact ⟨k + 1, _, by omega, by go_num, by rw [Hyes.out]; exact HQ.out.1, by split <;> omega, (HO.out.trans (Only.of_below (below_ext wr v))).trans HQ.out.2⟩
              case measure => simp [intOf]; omega
          · obtain rfl : k = rs.length := by omega
            have b1 := HB3.out.2.1.only HO.out (by omega)
            have b3 := HB3.out.2.2.2.1.only HO.out (by omega)
            have b4 := HB3.out.2.2.2.2.only HO.out (by omega)
            have hG := seenK_get f rs
            have h9 := HFF.out
            generalize seenK f rs rs.length = G at *
            have G1 : (G 1).getD false = F1 := (hG 1).trans h9.1
            have G2 : (G 2).getD false = F2 := (hG 2).trans h9.2.1
            have G3 : (G 3).getD false = F3 := (hG 3).trans h9.2.2.1
            have G4 : (G 4).getD false = F4 := (hG 4).trans h9.2.2.2.1
            have G5 : (G 5).getD false = F5 := (hG 5).trans h9.2.2.2.2
            have HG := Lib.hid (And.intro G1 (And.intro G2 (And.intro G3 (And.intro G4 G5))))
            have i1 := b1.cell
            have i3 := b3.cell
            have i4 := b4.cell
            have j1 := b1.lt
            have j3 := b3.lt
            have j4 := b4.lt
            have e := he3.out (by first | rfl | trivial)
            unfold decV at e
            simp only [Array.mk.injEq, List.cons.injEq, Value.bool.injEq, Value.int.injEq, true_and, and_true] at e
            have HE3 := Lib.hid e
            have hp19 : w.heap.size + 1 < p1 := by omega
            have hmbw : mb < wr.heap.size := jm
            have HBB := Lib.hid (And.intro b1 (And.intro b3 b4))
            clear b1 b3 b4 hG h9 G1 G2 G3 G4 G5 he2 he3 e hE
            go_upto_block 2 with (fail)
            refine forget (fun X => Below wr.heap.size wr X ∧ Bk X wr.heap.size #[.bool (F1 && F3 && !F2), .bool F6, .bool F7, .int .i64 lim, .int .i64 price, .int .i64 fn, .int .i64 fd, .int .i64 tn, .int .i64 td, .int .i64 cn, .int .i64 cd, .int .i64 un, .int .i64 ud, .int .i64 vn, .int .i64 vd, .int .i64 y] 37) ⟨by (repeat (first | with_reducible exact Below.refl _ _ | with_reducible assumption | with_reducible refine Below.alloc0 ?_ _ | with_reducible refine Below.ext0 ?_ _ | with_reducible refine Below.drew ?_ | with_reducible refine below_drewN ?_ _ | (with_reducible refine Below.setCell (hp := ?hp) ?_ _; case hp => (first | (simp; done) | (simp; omega))))), Bk.new _ _ _⟩ ?_
            obtain ⟨p3, hp3⟩ : ∃ n, wr.heap.size = n := ⟨_, rfl⟩
            rw [hp3] at j0 j1 j2 j3 j4 jm hbr ⊢
            rintro X ⟨hx, bw⟩
            rw [← hp3] at hx
            have HM4 := Lib.hid (HM.out.below hx)
            have HL4 : Hid (Below w.heap.size w X) := Lib.hid (HL.out.trans (hx.mono (by omega)))
            have y1 := HBB.out.1.below hx
            have y3 := HBB.out.2.1.below hx
            have y4 := HBB.out.2.2.below hx
            have x1 := y1.cell
            have x3 := y3.cell
            have x5 := bw.cell
            have f5 := bw.free
            have lx5 := bw.lt
            have x0 := fun i => (hx.cell (p := ⟨w.heap.size, i, none⟩) (by show w.heap.size < wr.heap.size; omega)).trans (i0 i)
            have lx0 : w.heap.size < X.heap.size := by omega
            have lx1 : w.heap.size + 1 < X.heap.size := by omega
            have lx3 : p1 < X.heap.size := by omega
            have HBW := Lib.hid bw
            have HY := Lib.hid (And.intro y1 (And.intro y3 y4))
            have hp9 : w.heap.size ≤ p3 := by omega
            have np0 : ¬ w.heap.size = p3 := by omega
            have np1 : ¬ w.heap.size + 1 = p3 := by omega
            have np3 : ¬ p1 = p3 := by omega
            have np4 : ¬ p2 = p3 := by omega
            have nm3 : ¬ mb = p3 := by omega
            have HG1 := Lib.hid HG.out.1
            have HG2 := Lib.hid HG.out.2.1
            have HG3 := Lib.hid HG.out.2.2.1
            have HG4 := Lib.hid HG.out.2.2.2.1
            have HG5 := Lib.hid HG.out.2.2.2.2
            clear HFF HM3 HL3 HB3 HR HZ0 hx bw y1 y3 y4 HBB i0 i1 i2 i3 i4 i5 j0 j1 j2 j3 j4 jm HM HL HO HG hp3 hl3 n3 n4 hmb hbr hmbw
            have hMX : Hid (∀ W', Only (fun g => g = p3) X W' → MapB litI Try.prog 3 4 W' mb m G) := Lib.hid fun W' ho => HM4.out.only ho nm3
            have hkd : kd = 1 ∨ kd = 2 ∨ kd = 3 ∨ kd = 4 ∨ kd = 5 ∨ kd = 6 ∨ kd = 7 ∨ (kd ≠ 1 ∧ kd ≠ 2 ∧ kd ≠ 3 ∧ kd ≠ 4 ∧ kd ≠ 5 ∧ kd ≠ 6 ∧ kd ≠ 7) := by omega
            have Hkd := Lib.hid hkd
            have HmE := HE3.out.1
            have Hmono : Hid ((kd = 2 → ok2 = false) ∧ (kd ≠ 2 → (F1 && F3 && !F2) = true → ok2 = true)) := Lib.hid ⟨fun h => by rw [HmE, h]; cases F1 <;> cases F2 <;> cases F3 <;> simp, fun h h2 => by rw [HmE, decide_eq_false h]; revert h2; cases F1 <;> cases F2 <;> cases F3 <;> simp⟩
            clear hkd HM4 HmE
            go_cut [] (fun X' => Bk X' p3 #[.bool ok2, .bool tg2, .bool si2, .int .i64 lim2, .int .i64 price2, .int .i64 fn2, .int .i64 fd2, .int .i64 tn2, .int .i64 td2, .int .i64 cn2, .int .i64 cd2, .int .i64 un2, .int .i64 ud2, .int .i64 vn2, .int .i64 vd2, .int .i64 y2] 37 ∧ Bk X' (w.heap.size + 1) #[.int .i64 kd, .string nm, .slice AZ zs.length zc, .int .i64 num, .int .i64 rn, .int .i64 rd, .int .i64 sn, .int .i64 sd] 34 ∧ Bk X' p1 #[.bool (F1 && F3 && !F2), .bool F6, .bool F7, .int .i64 lim, .int .i64 price, .int .i64 fn, .int .i64 fd, .int .i64 tn, .int .i64 td, .int .i64 cn, .int .i64 cd, .int .i64 un, .int .i64 ud, .int .i64 vn, .int .i64 vd, .int .i64 y] 37 ∧ Bk X' p2 #[.bool ok2, .bool tg2, .bool si2, .int .i64 lim2, .int .i64 price2, .int .i64 fn2, .int .i64 fd2, .int .i64 tn2, .int .i64 td2, .int .i64 cn2, .int .i64 cd2, .int .i64 un2, .int .i64 ud2, .int .i64 vn2, .int .i64 vd2, .int .i64 y2] 37 ∧ Below w.heap.size w X')
            case first =>
              clear x3 Hmono
              have x3 : X.cell? ⟨p1, 3, none⟩ = some (.int .i64 lim) := HY.out.2.1.cell 3
              rcases Hkd.out with rfl | rfl | rfl | rfl | rfl | rfl | rfl | hk
              · have hn : (¬ 0 < num) ∨ (0 < num ∧ lim = 0) ∨ (0 < num ∧ lim ≠ 0 ∧ num < lim) ∨ (0 < num ∧ lim ≠ 0 ∧ ¬ num < lim) := by omega
                rcases hn with n1 | ⟨n1, rfl⟩ | ⟨n1, n2, n3⟩ | ⟨n1, n2, n3⟩ <;> cases F1 <;> cases F2 <;> cases F3
                all_goals as_aux_lemma => (
                have e := HE3.out
                simp [*] at e
                obtain ⟨rfl, rfl, rfl, rfl, rfl, rfl, rfl, rfl, rfl, rfl, rfl, rfl, rfl, rfl, rfl, rfl⟩ := e
                clear HE3 Hkd
                go_wp2_with (at_lookup; (first | refine list_look rfl _ _ _ rfl 3 4 keyedI Try.underlying45 Try.underlying4 (zeroB _) rfl (hMX.out _ (by (repeat (first | with_reducible exact Only.refl _ _ | with_reducible assumption | with_reducible refine Only.alloc ?_ _ | with_reducible refine Only.ext0 ?_ _ | with_reducible refine Only.drew ?_ | with_reducible refine Only.drewN ?_ _ | (with_reducible refine Only.set_ (hp := ?hp) ?_ _; case hp => (first | (left; rfl) | (left; left; rfl) | (right; simp; done) | (right; simp; omega) | (left; simp; done) | (left; simp [*]; done))))))) _ _ rfl (keyI (by unfold fits; omega)) ?_ | refine list_lookw (by rfl) _ _ _ rfl 3 4 keyedI Try.underlying45 Try.underlying4 (zeroB _) rfl (hMX.out _ (by (repeat (first | with_reducible exact Only.refl _ _ | with_reducible assumption | with_reducible refine Only.alloc ?_ _ | with_reducible refine Only.ext0 ?_ _ | with_reducible refine Only.drew ?_ | with_reducible refine Only.drewN ?_ _ | (with_reducible refine Only.set_ (hp := ?hp) ?_ _; case hp => (first | (left; rfl) | (left; left; rfl) | (right; simp; done) | (right; simp; omega) | (left; simp; done) | (left; simp [*]; done))))))) _ _ rfl (keyI (by unfold fits; omega)) ?_); first | rw [HG1.out] | rw [HG2.out] | rw [HG3.out] | rw [HG4.out] | rw [HG5.out])
                go_meet
                refine ⟨?_, ?_, ?_, ?_, ?_⟩
                · have hb9 := HBW.out
                  first | with_reducible exact hb9 | (with_reducible refine set_eq hb9 ?_; simp only [List.setIfInBounds_toArray, List.set_cons_zero, List.set_cons_succ]) | (with_reducible refine set_eq_2 hb9 ?_; simp only [List.setIfInBounds_toArray, List.set_cons_zero, List.set_cons_succ]) | (with_reducible refine set_eq_3 hb9 ?_; simp only [List.setIfInBounds_toArray, List.set_cons_zero, List.set_cons_succ]) | (with_reducible refine set_eq_4 hb9 ?_; simp only [List.setIfInBounds_toArray, List.set_cons_zero, List.set_cons_succ]) | (with_reducible refine set_eq_5 hb9 ?_; simp only [List.setIfInBounds_toArray, List.set_cons_zero, List.set_cons_succ]) | (with_reducible refine set_eq_6 hb9 ?_; simp only [List.setIfInBounds_toArray, List.set_cons_zero, List.set_cons_succ])
                · repeat (with_reducible refine Bk.far ?_ (by show w.heap.size + 1 ≠ p3; exact np1) _)
                  with_reducible exact HY.out.1
                · repeat (with_reducible refine Bk.far ?_ (by show p1 ≠ p3; exact np3) _)
                  with_reducible exact HY.out.2.1
                · repeat (with_reducible refine Bk.far ?_ (by show p2 ≠ p3; exact np4) _)
                  with_reducible exact HY.out.2.2
                · have hw := HL4.out
                  (repeat (first | with_reducible exact Below.refl _ _ | with_reducible assumption | with_reducible refine Below.alloc0 ?_ _ | with_reducible refine Below.ext0 ?_ _ | with_reducible refine Below.drew ?_ | with_reducible refine below_drewN ?_ _ | (with_reducible refine Below.setCell (hp := ?hp) ?_ _; case hp => (first | (simp; done) | (simp; omega))))))
              · cases F2
                all_goals as_aux_lemma => (
                have e := HE3.out
                simp [*] at e
                obtain ⟨rfl, rfl, rfl, rfl, rfl, rfl, rfl, rfl, rfl, rfl, rfl, rfl, rfl, rfl, rfl, rfl⟩ := e
                clear HE3 Hkd
                go_wp2_with (at_lookup; (first | refine list_look rfl _ _ _ rfl 3 4 keyedI Try.underlying45 Try.underlying4 (zeroB _) rfl (hMX.out _ (by (repeat (first | with_reducible exact Only.refl _ _ | with_reducible assumption | with_reducible refine Only.alloc ?_ _ | with_reducible refine Only.ext0 ?_ _ | with_reducible refine Only.drew ?_ | with_reducible refine Only.drewN ?_ _ | (with_reducible refine Only.set_ (hp := ?hp) ?_ _; case hp => (first | (left; rfl) | (left; left; rfl) | (right; simp; done) | (right; simp; omega) | (left; simp; done) | (left; simp [*]; done))))))) _ _ rfl (keyI (by unfold fits; omega)) ?_ | refine list_lookw (by rfl) _ _ _ rfl 3 4 keyedI Try.underlying45 Try.underlying4 (zeroB _) rfl (hMX.out _ (by (repeat (first | with_reducible exact Only.refl _ _ | with_reducible assumption | with_reducible refine Only.alloc ?_ _ | with_reducible refine Only.ext0 ?_ _ | with_reducible refine Only.drew ?_ | with_reducible refine Only.drewN ?_ _ | (with_reducible refine Only.set_ (hp := ?hp) ?_ _; case hp => (first | (left; rfl) | (left; left; rfl) | (right; simp; done) | (right; simp; omega) | (left; simp; done) | (left; simp [*]; done))))))) _ _ rfl (keyI (by unfold fits; omega)) ?_); first | rw [HG1.out] | rw [HG2.out] | rw [HG3.out] | rw [HG4.out] | rw [HG5.out])
                go_meet
                refine ⟨?_, ?_, ?_, ?_, ?_⟩
                · have hb9 := HBW.out
                  first | with_reducible exact hb9 | (with_reducible refine set_eq hb9 ?_; simp only [List.setIfInBounds_toArray, List.set_cons_zero, List.set_cons_succ]) | (with_reducible refine set_eq_2 hb9 ?_; simp only [List.setIfInBounds_toArray, List.set_cons_zero, List.set_cons_succ]) | (with_reducible refine set_eq_3 hb9 ?_; simp only [List.setIfInBounds_toArray, List.set_cons_zero, List.set_cons_succ]) | (with_reducible refine set_eq_4 hb9 ?_; simp only [List.setIfInBounds_toArray, List.set_cons_zero, List.set_cons_succ]) | (with_reducible refine set_eq_5 hb9 ?_; simp only [List.setIfInBounds_toArray, List.set_cons_zero, List.set_cons_succ]) | (with_reducible refine set_eq_6 hb9 ?_; simp only [List.setIfInBounds_toArray, List.set_cons_zero, List.set_cons_succ])
                · repeat (with_reducible refine Bk.far ?_ (by show w.heap.size + 1 ≠ p3; exact np1) _)
                  with_reducible exact HY.out.1
                · repeat (with_reducible refine Bk.far ?_ (by show p1 ≠ p3; exact np3) _)
                  with_reducible exact HY.out.2.1
                · repeat (with_reducible refine Bk.far ?_ (by show p2 ≠ p3; exact np4) _)
                  with_reducible exact HY.out.2.2
                · have hw := HL4.out
                  (repeat (first | with_reducible exact Below.refl _ _ | with_reducible assumption | with_reducible refine Below.alloc0 ?_ _ | with_reducible refine Below.ext0 ?_ _ | with_reducible refine Below.drew ?_ | with_reducible refine below_drewN ?_ _ | (with_reducible refine Below.setCell (hp := ?hp) ?_ _; case hp => (first | (simp; done) | (simp; omega))))))
              · cases F1 <;> cases F2 <;> cases F3
                all_goals as_aux_lemma => (
                have e := HE3.out
                simp [*] at e
                obtain ⟨rfl, rfl, rfl, rfl, rfl, rfl, rfl, rfl, rfl, rfl, rfl, rfl, rfl, rfl, rfl, rfl⟩ := e
                clear HE3 Hkd
                go_wp2_with (at_lookup; (first | refine list_look rfl _ _ _ rfl 3 4 keyedI Try.underlying45 Try.underlying4 (zeroB _) rfl (hMX.out _ (by (repeat (first | with_reducible exact Only.refl _ _ | with_reducible assumption | with_reducible refine Only.alloc ?_ _ | with_reducible refine Only.ext0 ?_ _ | with_reducible refine Only.drew ?_ | with_reducible refine Only.drewN ?_ _ | (with_reducible refine Only.set_ (hp := ?hp) ?_ _; case hp => (first | (left; rfl) | (left; left; rfl) | (right; simp; done) | (right; simp; omega) | (left; simp; done) | (left; simp [*]; done))))))) _ _ rfl (keyI (by unfold fits; omega)) ?_ | refine list_lookw (by rfl) _ _ _ rfl 3 4 keyedI Try.underlying45 Try.underlying4 (zeroB _) rfl (hMX.out _ (by (repeat (first | with_reducible exact Only.refl _ _ | with_reducible assumption | with_reducible refine Only.alloc ?_ _ | with_reducible refine Only.ext0 ?_ _ | with_reducible refine Only.drew ?_ | with_reducible refine Only.drewN ?_ _ | (with_reducible refine Only.set_ (hp := ?hp) ?_ _; case hp => (first | (left; rfl) | (left; left; rfl) | (right; simp; done) | (right; simp; omega) | (left; simp; done) | (left; simp [*]; done))))))) _ _ rfl (keyI (by unfold fits; omega)) ?_); first | rw [HG1.out] | rw [HG2.out] | rw [HG3.out] | rw [HG4.out] | rw [HG5.out])
                go_meet
                refine ⟨?_, ?_, ?_, ?_, ?_⟩
                · have hb9 := HBW.out
                  first | with_reducible exact hb9 | (with_reducible refine set_eq hb9 ?_; simp only [List.setIfInBounds_toArray, List.set_cons_zero, List.set_cons_succ]) | (with_reducible refine set_eq_2 hb9 ?_; simp only [List.setIfInBounds_toArray, List.set_cons_zero, List.set_cons_succ]) | (with_reducible refine set_eq_3 hb9 ?_; simp only [List.setIfInBounds_toArray, List.set_cons_zero, List.set_cons_succ]) | (with_reducible refine set_eq_4 hb9 ?_; simp only [List.setIfInBounds_toArray, List.set_cons_zero, List.set_cons_succ]) | (with_reducible refine set_eq_5 hb9 ?_; simp only [List.setIfInBounds_toArray, List.set_cons_zero, List.set_cons_succ]) | (with_reducible refine set_eq_6 hb9 ?_; simp only [List.setIfInBounds_toArray, List.set_cons_zero, List.set_cons_succ])
                · repeat (with_reducible refine Bk.far ?_ (by show w.heap.size + 1 ≠ p3; exact np1) _)
                  with_reducible exact HY.out.1
                · repeat (with_reducible refine Bk.far ?_ (by show p1 ≠ p3; exact np3) _)
                  with_reducible exact HY.out.2.1
                · repeat (with_reducible refine Bk.far ?_ (by show p2 ≠ p3; exact np4) _)
                  with_reducible exact HY.out.2.2
                · have hw := HL4.out
                  (repeat (first | with_reducible exact Below.refl _ _ | with_reducible assumption | with_reducible refine Below.alloc0 ?_ _ | with_reducible refine Below.ext0 ?_ _ | with_reducible refine Below.drew ?_ | with_reducible refine below_drewN ?_ _ | (with_reducible refine Below.setCell (hp := ?hp) ?_ _; case hp => (first | (simp; done) | (simp; omega))))))
              · cases F4
                all_goals as_aux_lemma => (
                have e := HE3.out
                simp [*] at e
                obtain ⟨rfl, rfl, rfl, rfl, rfl, rfl, rfl, rfl, rfl, rfl, rfl, rfl, rfl, rfl, rfl, rfl⟩ := e
                clear HE3 Hkd
                go_wp2_with (at_lookup; (first | refine list_look rfl _ _ _ rfl 3 4 keyedI Try.underlying45 Try.underlying4 (zeroB _) rfl (hMX.out _ (by (repeat (first | with_reducible exact Only.refl _ _ | with_reducible assumption | with_reducible refine Only.alloc ?_ _ | with_reducible refine Only.ext0 ?_ _ | with_reducible refine Only.drew ?_ | with_reducible refine Only.drewN ?_ _ | (with_reducible refine Only.set_ (hp := ?hp) ?_ _; case hp => (first | (left; rfl) | (left; left; rfl) | (right; simp; done) | (right; simp; omega) | (left; simp; done) | (left; simp [*]; done))))))) _ _ rfl (keyI (by unfold fits; omega)) ?_ | refine list_lookw (by rfl) _ _ _ rfl 3 4 keyedI Try.underlying45 Try.underlying4 (zeroB _) rfl (hMX.out _ (by (repeat (first | with_reducible exact Only.refl _ _ | with_reducible assumption | with_reducible refine Only.alloc ?_ _ | with_reducible refine Only.ext0 ?_ _ | with_reducible refine Only.drew ?_ | with_reducible refine Only.drewN ?_ _ | (with_reducible refine Only.set_ (hp := ?hp) ?_ _; case hp => (first | (left; rfl) | (left; left; rfl) | (right; simp; done) | (right; simp; omega) | (left; simp; done) | (left; simp [*]; done))))))) _ _ rfl (keyI (by unfold fits; omega)) ?_); first | rw [HG1.out] | rw [HG2.out] | rw [HG3.out] | rw [HG4.out] | rw [HG5.out])
                go_meet
                refine ⟨?_, ?_, ?_, ?_, ?_⟩
                · have hb9 := HBW.out
                  first | with_reducible exact hb9 | (with_reducible refine set_eq hb9 ?_; simp only [List.setIfInBounds_toArray, List.set_cons_zero, List.set_cons_succ]) | (with_reducible refine set_eq_2 hb9 ?_; simp only [List.setIfInBounds_toArray, List.set_cons_zero, List.set_cons_succ]) | (with_reducible refine set_eq_3 hb9 ?_; simp only [List.setIfInBounds_toArray, List.set_cons_zero, List.set_cons_succ]) | (with_reducible refine set_eq_4 hb9 ?_; simp only [List.setIfInBounds_toArray, List.set_cons_zero, List.set_cons_succ]) | (with_reducible refine set_eq_5 hb9 ?_; simp only [List.setIfInBounds_toArray, List.set_cons_zero, List.set_cons_succ]) | (with_reducible refine set_eq_6 hb9 ?_; simp only [List.setIfInBounds_toArray, List.set_cons_zero, List.set_cons_succ])
                · repeat (with_reducible refine Bk.far ?_ (by show w.heap.size + 1 ≠ p3; exact np1) _)
                  with_reducible exact HY.out.1
                · repeat (with_reducible refine Bk.far ?_ (by show p1 ≠ p3; exact np3) _)
                  with_reducible exact HY.out.2.1
                · repeat (with_reducible refine Bk.far ?_ (by show p2 ≠ p3; exact np4) _)
                  with_reducible exact HY.out.2.2
                · have hw := HL4.out
                  (repeat (first | with_reducible exact Below.refl _ _ | with_reducible assumption | with_reducible refine Below.alloc0 ?_ _ | with_reducible refine Below.ext0 ?_ _ | with_reducible refine Below.drew ?_ | with_reducible refine below_drewN ?_ _ | (with_reducible refine Below.setCell (hp := ?hp) ?_ _; case hp => (first | (simp; done) | (simp; omega))))))
              · cases F5
                all_goals as_aux_lemma => (
                have e := HE3.out
                simp [*] at e
                obtain ⟨rfl, rfl, rfl, rfl, rfl, rfl, rfl, rfl, rfl, rfl, rfl, rfl, rfl, rfl, rfl, rfl⟩ := e
                clear HE3 Hkd
                go_wp2_with (at_lookup; (first | refine list_look rfl _ _ _ rfl 3 4 keyedI Try.underlying45 Try.underlying4 (zeroB _) rfl (hMX.out _ (by (repeat (first | with_reducible exact Only.refl _ _ | with_reducible assumption | with_reducible refine Only.alloc ?_ _ | with_reducible refine Only.ext0 ?_ _ | with_reducible refine Only.drew ?_ | with_reducible refine Only.drewN ?_ _ | (with_reducible refine Only.set_ (hp := ?hp) ?_ _; case hp => (first | (left; rfl) | (left; left; rfl) | (right; simp; done) | (right; simp; omega) | (left; simp; done) | (left; simp [*]; done))))))) _ _ rfl (keyI (by unfold fits; omega)) ?_ | refine list_lookw (by rfl) _ _ _ rfl 3 4 keyedI Try.underlying45 Try.underlying4 (zeroB _) rfl (hMX.out _ (by (repeat (first | with_reducible exact Only.refl _ _ | with_reducible assumption | with_reducible refine Only.alloc ?_ _ | with_reducible refine Only.ext0 ?_ _ | with_reducible refine Only.drew ?_ | with_reducible refine Only.drewN ?_ _ | (with_reducible refine Only.set_ (hp := ?hp) ?_ _; case hp => (first | (left; rfl) | (left; left; rfl) | (right; simp; done) | (right; simp; omega) | (left; simp; done) | (left; simp [*]; done))))))) _ _ rfl (keyI (by unfold fits; omega)) ?_); first | rw [HG1.out] | rw [HG2.out] | rw [HG3.out] | rw [HG4.out] | rw [HG5.out])
                go_meet
                refine ⟨?_, ?_, ?_, ?_, ?_⟩
                · have hb9 := HBW.out
                  first | with_reducible exact hb9 | (with_reducible refine set_eq hb9 ?_; simp only [List.setIfInBounds_toArray, List.set_cons_zero, List.set_cons_succ]) | (with_reducible refine set_eq_2 hb9 ?_; simp only [List.setIfInBounds_toArray, List.set_cons_zero, List.set_cons_succ]) | (with_reducible refine set_eq_3 hb9 ?_; simp only [List.setIfInBounds_toArray, List.set_cons_zero, List.set_cons_succ]) | (with_reducible refine set_eq_4 hb9 ?_; simp only [List.setIfInBounds_toArray, List.set_cons_zero, List.set_cons_succ]) | (with_reducible refine set_eq_5 hb9 ?_; simp only [List.setIfInBounds_toArray, List.set_cons_zero, List.set_cons_succ]) | (with_reducible refine set_eq_6 hb9 ?_; simp only [List.setIfInBounds_toArray, List.set_cons_zero, List.set_cons_succ])
                · repeat (with_reducible refine Bk.far ?_ (by show w.heap.size + 1 ≠ p3; exact np1) _)
                  with_reducible exact HY.out.1
                · repeat (with_reducible refine Bk.far ?_ (by show p1 ≠ p3; exact np3) _)
                  with_reducible exact HY.out.2.1
                · repeat (with_reducible refine Bk.far ?_ (by show p2 ≠ p3; exact np4) _)
                  with_reducible exact HY.out.2.2
                · have hw := HL4.out
                  (repeat (first | with_reducible exact Below.refl _ _ | with_reducible assumption | with_reducible refine Below.alloc0 ?_ _ | with_reducible refine Below.ext0 ?_ _ | with_reducible refine Below.drew ?_ | with_reducible refine below_drewN ?_ _ | (with_reducible refine Below.setCell (hp := ?hp) ?_ _; case hp => (first | (simp; done) | (simp; omega))))))
              · as_aux_lemma => (
                have e := HE3.out
                simp [*] at e
                obtain ⟨rfl, rfl, rfl, rfl, rfl, rfl, rfl, rfl, rfl, rfl, rfl, rfl, rfl, rfl, rfl, rfl⟩ := e
                clear HE3 Hkd
                go_wp2_with (at_lookup; (first | refine list_look rfl _ _ _ rfl 3 4 keyedI Try.underlying45 Try.underlying4 (zeroB _) rfl (hMX.out _ (by (repeat (first | with_reducible exact Only.refl _ _ | with_reducible assumption | with_reducible refine Only.alloc ?_ _ | with_reducible refine Only.ext0 ?_ _ | with_reducible refine Only.drew ?_ | with_reducible refine Only.drewN ?_ _ | (with_reducible refine Only.set_ (hp := ?hp) ?_ _; case hp => (first | (left; rfl) | (left; left; rfl) | (right; simp; done) | (right; simp; omega) | (left; simp; done) | (left; simp [*]; done))))))) _ _ rfl (keyI (by unfold fits; omega)) ?_ | refine list_lookw (by rfl) _ _ _ rfl 3 4 keyedI Try.underlying45 Try.underlying4 (zeroB _) rfl (hMX.out _ (by (repeat (first | with_reducible exact Only.refl _ _ | with_reducible assumption | with_reducible refine Only.alloc ?_ _ | with_reducible refine Only.ext0 ?_ _ | with_reducible refine Only.drew ?_ | with_reducible refine Only.drewN ?_ _ | (with_reducible refine Only.set_ (hp := ?hp) ?_ _; case hp => (first | (left; rfl) | (left; left; rfl) | (right; simp; done) | (right; simp; omega) | (left; simp; done) | (left; simp [*]; done))))))) _ _ rfl (keyI (by unfold fits; omega)) ?_); first | rw [HG1.out] | rw [HG2.out] | rw [HG3.out] | rw [HG4.out] | rw [HG5.out])
                go_meet
                refine ⟨?_, ?_, ?_, ?_, ?_⟩
                · have hb9 := HBW.out
                  first | with_reducible exact hb9 | (with_reducible refine set_eq hb9 ?_; simp only [List.setIfInBounds_toArray, List.set_cons_zero, List.set_cons_succ]) | (with_reducible refine set_eq_2 hb9 ?_; simp only [List.setIfInBounds_toArray, List.set_cons_zero, List.set_cons_succ]) | (with_reducible refine set_eq_3 hb9 ?_; simp only [List.setIfInBounds_toArray, List.set_cons_zero, List.set_cons_succ]) | (with_reducible refine set_eq_4 hb9 ?_; simp only [List.setIfInBounds_toArray, List.set_cons_zero, List.set_cons_succ]) | (with_reducible refine set_eq_5 hb9 ?_; simp only [List.setIfInBounds_toArray, List.set_cons_zero, List.set_cons_succ]) | (with_reducible refine set_eq_6 hb9 ?_; simp only [List.setIfInBounds_toArray, List.set_cons_zero, List.set_cons_succ])
                · repeat (with_reducible refine Bk.far ?_ (by show w.heap.size + 1 ≠ p3; exact np1) _)
                  with_reducible exact HY.out.1
                · repeat (with_reducible refine Bk.far ?_ (by show p1 ≠ p3; exact np3) _)
                  with_reducible exact HY.out.2.1
                · repeat (with_reducible refine Bk.far ?_ (by show p2 ≠ p3; exact np4) _)
                  with_reducible exact HY.out.2.2
                · have hw := HL4.out
                  (repeat (first | with_reducible exact Below.refl _ _ | with_reducible assumption | with_reducible refine Below.alloc0 ?_ _ | with_reducible refine Below.ext0 ?_ _ | with_reducible refine Below.drew ?_ | with_reducible refine below_drewN ?_ _ | (with_reducible refine Below.setCell (hp := ?hp) ?_ _; case hp => (first | (simp; done) | (simp; omega))))))
              · as_aux_lemma => (
                have e := HE3.out
                simp [*] at e
                obtain ⟨rfl, rfl, rfl, rfl, rfl, rfl, rfl, rfl, rfl, rfl, rfl, rfl, rfl, rfl, rfl, rfl⟩ := e
                clear HE3 Hkd
                go_wp2_with (at_lookup; (first | refine list_look rfl _ _ _ rfl 3 4 keyedI Try.underlying45 Try.underlying4 (zeroB _) rfl (hMX.out _ (by (repeat (first | with_reducible exact Only.refl _ _ | with_reducible assumption | with_reducible refine Only.alloc ?_ _ | with_reducible refine Only.ext0 ?_ _ | with_reducible refine Only.drew ?_ | with_reducible refine Only.drewN ?_ _ | (with_reducible refine Only.set_ (hp := ?hp) ?_ _; case hp => (first | (left; rfl) | (left; left; rfl) | (right; simp; done) | (right; simp; omega) | (left; simp; done) | (left; simp [*]; done))))))) _ _ rfl (keyI (by unfold fits; omega)) ?_ | refine list_lookw (by rfl) _ _ _ rfl 3 4 keyedI Try.underlying45 Try.underlying4 (zeroB _) rfl (hMX.out _ (by (repeat (first | with_reducible exact Only.refl _ _ | with_reducible assumption | with_reducible refine Only.alloc ?_ _ | with_reducible refine Only.ext0 ?_ _ | with_reducible refine Only.drew ?_ | with_reducible refine Only.drewN ?_ _ | (with_reducible refine Only.set_ (hp := ?hp) ?_ _; case hp => (first | (left; rfl) | (left; left; rfl) | (right; simp; done) | (right; simp; omega) | (left; simp; done) | (left; simp [*]; done))))))) _ _ rfl (keyI (by unfold fits; omega)) ?_); first | rw [HG1.out] | rw [HG2.out] | rw [HG3.out] | rw [HG4.out] | rw [HG5.out])
                go_meet
                refine ⟨?_, ?_, ?_, ?_, ?_⟩
                · have hb9 := HBW.out
                  first | with_reducible exact hb9 | (with_reducible refine set_eq hb9 ?_; simp only [List.setIfInBounds_toArray, List.set_cons_zero, List.set_cons_succ]) | (with_reducible refine set_eq_2 hb9 ?_; simp only [List.setIfInBounds_toArray, List.set_cons_zero, List.set_cons_succ]) | (with_reducible refine set_eq_3 hb9 ?_; simp only [List.setIfInBounds_toArray, List.set_cons_zero, List.set_cons_succ]) | (with_reducible refine set_eq_4 hb9 ?_; simp only [List.setIfInBounds_toArray, List.set_cons_zero, List.set_cons_succ]) | (with_reducible refine set_eq_5 hb9 ?_; simp only [List.setIfInBounds_toArray, List.set_cons_zero, List.set_cons_succ]) | (with_reducible refine set_eq_6 hb9 ?_; simp only [List.setIfInBounds_toArray, List.set_cons_zero, List.set_cons_succ])
                · repeat (with_reducible refine Bk.far ?_ (by show w.heap.size + 1 ≠ p3; exact np1) _)
                  with_reducible exact HY.out.1
                · repeat (with_reducible refine Bk.far ?_ (by show p1 ≠ p3; exact np3) _)
                  with_reducible exact HY.out.2.1
                · repeat (with_reducible refine Bk.far ?_ (by show p2 ≠ p3; exact np4) _)
                  with_reducible exact HY.out.2.2
                · have hw := HL4.out
                  (repeat (first | with_reducible exact Below.refl _ _ | with_reducible assumption | with_reducible refine Below.alloc0 ?_ _ | with_reducible refine Below.ext0 ?_ _ | with_reducible refine Below.drew ?_ | with_reducible refine below_drewN ?_ _ | (with_reducible refine Below.setCell (hp := ?hp) ?_ _; case hp => (first | (simp; done) | (simp; omega))))))
              · obtain ⟨q1, q2, q3, q4, q5, q6, q7⟩ := hk
                as_aux_lemma => (
                have e := HE3.out
                simp [*] at e
                obtain ⟨rfl, rfl, rfl, rfl, rfl, rfl, rfl, rfl, rfl, rfl, rfl, rfl, rfl, rfl, rfl, rfl⟩ := e
                clear HE3 Hkd
                go_wp2_with (at_lookup; (first | refine list_look rfl _ _ _ rfl 3 4 keyedI Try.underlying45 Try.underlying4 (zeroB _) rfl (hMX.out _ (by (repeat (first | with_reducible exact Only.refl _ _ | with_reducible assumption | with_reducible refine Only.alloc ?_ _ | with_reducible refine Only.ext0 ?_ _ | with_reducible refine Only.drew ?_ | with_reducible refine Only.drewN ?_ _ | (with_reducible refine Only.set_ (hp := ?hp) ?_ _; case hp => (first | (left; rfl) | (left; left; rfl) | (right; simp; done) | (right; simp; omega) | (left; simp; done) | (left; simp [*]; done))))))) _ _ rfl (keyI (by unfold fits; omega)) ?_ | refine list_lookw (by rfl) _ _ _ rfl 3 4 keyedI Try.underlying45 Try.underlying4 (zeroB _) rfl (hMX.out _ (by (repeat (first | with_reducible exact Only.refl _ _ | with_reducible assumption | with_reducible refine Only.alloc ?_ _ | with_reducible refine Only.ext0 ?_ _ | with_reducible refine Only.drew ?_ | with_reducible refine Only.drewN ?_ _ | (with_reducible refine Only.set_ (hp := ?hp) ?_ _; case hp => (first | (left; rfl) | (left; left; rfl) | (right; simp; done) | (right; simp; omega) | (left; simp; done) | (left; simp [*]; done))))))) _ _ rfl (keyI (by unfold fits; omega)) ?_); first | rw [HG1.out] | rw [HG2.out] | rw [HG3.out] | rw [HG4.out] | rw [HG5.out])
                go_meet
                refine ⟨?_, ?_, ?_, ?_, ?_⟩
                · have hb9 := HBW.out
                  first | with_reducible exact hb9 | (with_reducible refine set_eq hb9 ?_; simp only [List.setIfInBounds_toArray, List.set_cons_zero, List.set_cons_succ]) | (with_reducible refine set_eq_2 hb9 ?_; simp only [List.setIfInBounds_toArray, List.set_cons_zero, List.set_cons_succ]) | (with_reducible refine set_eq_3 hb9 ?_; simp only [List.setIfInBounds_toArray, List.set_cons_zero, List.set_cons_succ]) | (with_reducible refine set_eq_4 hb9 ?_; simp only [List.setIfInBounds_toArray, List.set_cons_zero, List.set_cons_succ]) | (with_reducible refine set_eq_5 hb9 ?_; simp only [List.setIfInBounds_toArray, List.set_cons_zero, List.set_cons_succ]) | (with_reducible refine set_eq_6 hb9 ?_; simp only [List.setIfInBounds_toArray, List.set_cons_zero, List.set_cons_succ])
                · repeat (with_reducible refine Bk.far ?_ (by show w.heap.size + 1 ≠ p3; exact np1) _)
                  with_reducible exact HY.out.1
                · repeat (with_reducible refine Bk.far ?_ (by show p1 ≠ p3; exact np3) _)
                  with_reducible exact HY.out.2.1
                · repeat (with_reducible refine Bk.far ?_ (by show p2 ≠ p3; exact np4) _)
                  with_reducible exact HY.out.2.2
                · have hw := HL4.out
                  (repeat (first | with_reducible exact Below.refl _ _ | with_reducible assumption | with_reducible refine Below.alloc0 ?_ _ | with_reducible refine Below.ext0 ?_ _ | with_reducible refine Below.drew ?_ | with_reducible refine below_drewN ?_ _ | (with_reducible refine Below.setCell (hp := ?hp) ?_ _; case hp => (first | (simp; done) | (simp; omega))))))
            case rest =>
            obtain ⟨Y9, hY9⟩ : ∃ Y, Y = wc := ⟨_, rfl⟩
            rw [← hY9] at hcut ⊢
            obtain ⟨k1, k2, k3, k4, k5⟩ := hcut
            clear hY9 x0 x1 x3 x5 f5 lx5 lx0 lx1 lx3 HBW HY HE3 hMX HG1 HG2 HG3 HG4 HG5 HL4
            have x1 := k2.cell
            have x3 := k3.cell
            have x4 := k4.cell
            have x5 := k1.cell
            have l1 := k2.lt
            have l3 := k3.lt
            have l4 := k4.lt
            have l5 := k1.lt
            have HK := Lib.hid k5
            clear k1 k2 k3 k4 k5
            obtain ⟨ok1, hok1⟩ : ∃ v, (F1 && F3 && !F2) = v := ⟨_, rfl⟩
            rw [hok1] at x3 Hmono
            clear hok1
            by_cases h2 : kd = 2
            · obtain rfl := Hmono.out.1 h2
              subst h2
              clear Hkd
              cases ok1
              all_goals as_aux_lemma =>
                go_wp2_with fail
                go_ret
                exact ⟨rfl, HK.out⟩
            · have hm := Hmono.out.2 h2
              have h2b : (kd != 2) = true := by simpa using h2
              have h2c : (kd == 2) = false := by simpa using h2
              cases ok1
              · clear hm
                cases ok2
                all_goals as_aux_lemma =>
                  go_wp2_with fail
                  go_ret
                  exact ⟨rfl, HK.out⟩
              · obtain rfl := hm rfl
                as_aux_lemma =>
                  go_wp2_with fail
                  go_ret
                  exact ⟨rfl, HK.out⟩
set_option maxRecDepth 100000 in
theorem decideFurther_lifted (os : Os) (started : os.Started) (H : Type) (enc : TypeId × Value → H) :
    ReturnsInHanded {} Try.checked os 6 .any (Rows.decideFurtherSpec.pre6 enc Try.prog Try.f6 [] false) (Rows.decideFurtherSpec.post enc Try.prog Try.f6 false true false false) := by
  refine law_lifted (C := Try.checked) own started (by kernel_rfl) Try.func6 rfl (fun ds hds => ?_) (tb := 4) (by kernel_rfl) Try.underlying4 laidOut (fun t ht => ?_)
    (ChangeSpec.witness6 (enc := enc) (C := Try.checked) false ⟨#[], #[.agg #[.slice none 0 0], .agg #[.int .i64 0, .string ⟨#[]⟩, .slice none 0 0, .int .i64 0, .int .i64 0, .int .i64 0, .int .i64 0, .int .i64 0], .agg #[.int .i64 0, .int .i64 0, .int .i64 0, .int .i64 0, .int .i64 0, .int .i64 0, .int .i64 0, .int .i64 0, .int .i64 0, .int .i64 0]], []⟩ 8 (by kernel_rfl) (by kernel_rfl) (by kernel_rfl) (by kernel_rfl)) ?_
  · rw [Try.params6] at hds
    match ds, hds with
    | [_, _, _], _ => rfl
  · have := List.all_eq_true.1 (show (Try.f6.params.toList.all fun t => Try.prog.readableRec t && decide (t < Try.prog.types.size)) = true by kernel_rfl) t ht
    simp only [Bool.and_eq_true, decide_eq_true_eq] at this
    exact this
  · intro W args g
    rw [Try.params6] at g
    obtain ⟨v0, q0, e0, g0, h0⟩ := g.cons_inv
    obtain ⟨v1, q1, rfl, g1, h1⟩ := h0.cons_inv
    obtain ⟨v2, q2, rfl, g2, h2⟩ := h1.cons_inv
    obtain rfl := h2.nil_inv
    obtain rfl : args = #[v0, v1, v2] := by cases args; simp_all
    obtain ⟨c0, y0, rfl, r0⟩ := g0.agg Try.underlying24 opensPol
    obtain ⟨c1, y1, rfl, r1⟩ := g1.agg Try.underlying34 opensRl
    obtain ⟨c2, y2, rfl, r2⟩ := g2.arr Try.underlying26 opensFc
    obtain ⟨A, cap, e1, b1, b2, b3⟩ := pol_of r0
    obtain ⟨kd, nm, AZ, zs, zc, num, rn, rd, sn, sd, rfl, e3, b6, b7, b8, b9, _⟩ := rule_of r1
    obtain ⟨e2, b4, b5⟩ := fac_of r2
    injection e3 with e3
    subst e3
    rw [e1, e2]
    exact further13 A y0 cap kd nm AZ zs zc num rn rd sn sd y2 W b3 (by unfold maxLen at b2; omega) r1 b9 b4

theorem decideFurther_holds : Rows.DecideFurtherSaid :=
  OpenClaim.holds_of_wide 6 Try.f6 rfl rfl rfl rfl rfl rfl rfl ⟨rfl, rfl, rfl, rfl, rfl⟩ rfl rfl rfl rfl rfl (by kernel_rfl) Try.func6 (by kernel_rfl)
    (of_decide_eq_true (by kernel_rfl)) (by unfold Func.isWrapper; first | (rw [if_pos (by decide +kernel)]; kernel_rfl) | (rw [if_neg (by decide +kernel)]; exact ⟨rfl, rfl⟩))
    (fun os started H enc _ => decideFurther_lifted os started H enc)
#print axioms decideFurther_holds
end Go.Proofs.Ytmklcfmdcfbpeaa
