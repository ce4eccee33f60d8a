/- DecideLimits: the limit is the least of the permissions that hold, for every policy and facts; no condition. -/
import Derived.Test.YtmklcfmdcfbpeaaDecN
import Derived.Test.YtmklcfmdcfbpeaaDecO
namespace Go.Proofs.Ytmklcfmdcfbpeaa
open Go.RowKit Go.ChangeAt
set_option linter.unusedVariables false
set_option linter.unusedSimpArgs false
attribute [local go_sem] ext_cell ext_frozen lt_ext ext_drew

def numOk (f : Fc) (r : Rl) : Bool := decide (r.1 = 1) && decide (0 < r.2.2.2.1) && holdsB r f
def foundL (f : Fc) (rs : List Rl) (lim : Int) (k : Nat) : Bool := decide (lim = 0) || (rs.take k).any fun r => numOk f r && decide (r.2.2.2.1 = lim)
theorem foundL_step {f : Fc} {rs : List Rl} {lim : Int} {k : Nat} {r : Rl} (h : rs[k]? = some r) : foundL f rs lim (k + 1) = (foundL f rs lim k || (numOk f r && decide (r.2.2.2.1 = lim))) := by
  unfold foundL
  rw [any_take _ h, Bool.or_assoc]
theorem lim_is {f : Fc} {rs : List Rl} {ok tg si : Bool} {lim price fn fd tn td cn cd sn sd rn rd y : Int} (h : dcs (runJ f rs rs.length) = #[.bool ok, .bool tg, .bool si, .int .i64 lim, .int .i64 price, .int .i64 fn, .int .i64 fd, .int .i64 tn, .int .i64 td, .int .i64 cn, .int .i64 cd, .int .i64 sn, .int .i64 sd, .int .i64 rn, .int .i64 rd, .int .i64 y]) : lim = limL (heldK f rs 1) := by
  have e := limL_run (f := f) (rs := rs) rs.length (Nat.le_refl _)
  rw [List.take_length] at e
  rw [← e]
  have := congrArg (fun a : Array Value => a[3]?) h
  simpa [dcs, decV] using this.symm
theorem held_mem {f : Fc} {rs : List Rl} {r : Rl} (q : Int) : r ∈ heldK f rs q ↔ r ∈ rs ∧ r.1 = q ∧ holdsB r f = true := by
  unfold heldK
  rw [List.mem_filter]
  simp
theorem lim_le {f : Fc} {rs : List Rl} {lim : Int} (h : lim = limL (heldK f rs 1)) {k : Nat} {r : Rl} (hr : rs[k]? = some r) (ho : numOk f r = true) : 0 < lim ∧ lim ≤ r.2.2.2.1 := by
  obtain ⟨_, _, h3, _⟩ := limL_spec (heldK f rs 1) 0 (Int.le_refl _)
  unfold numOk at ho
  simp only [Bool.and_eq_true, decide_eq_true_eq] at ho
  rw [h]
  exact h3 r ((held_mem 1).2 ⟨List.mem_of_getElem? hr, ho.1.1, ho.2⟩) ho.1.2
theorem lim_found {f : Fc} {rs : List Rl} {lim : Int} (h : lim = limL (heldK f rs 1)) : foundL f rs lim rs.length = true := by
  obtain ⟨_, h2, _, _⟩ := limL_spec (heldK f rs 1) 0 (Int.le_refl _)
  unfold foundL
  rw [List.take_length]
  rcases h2 with h2 | ⟨r, hr, h3, h4⟩
  · have : lim = 0 := h.trans h2
    simp [this]
  · obtain ⟨m1, m2, m3⟩ := (held_mem 1).1 hr
    have e : r.2.2.2.1 = lim := h4.symm.trans h.symm
    rw [Bool.or_eq_true]
    right
    rw [List.any_eq_true]
    have h5 : 0 < lim := by rw [← e]; exact h3
    exact ⟨r, m1, by unfold numOk; simp [m2, m3, h5, e]⟩
theorem numOk_no {f : Fc} {r : Rl} (h : ¬ (r.1 = 1 ∧ 0 < r.2.2.2.1 ∧ holdsB r f = true)) : numOk f r = false := by
  rw [Bool.eq_false_iff]
  intro e
  unfold numOk at e
  simp only [Bool.and_eq_true, decide_eq_true_eq] at e
  exact h ⟨e.1.1, e.1.2, e.2⟩

set_option maxRecDepth 100000 in
set_option maxHeartbeats 4000000 in
theorem limits13 (A : Option Addr) (rs : List Rl) (cap : Nat) (f : Fc) (w : World) (h : Elems tRl w w.heap.size A rs) (hm : rs.length ≤ 9223372036854775807) (hf : f.length = 10) :
    Calls Try.prog 7 #[.agg #[.slice A rs.length cap], .agg (fcV f)] w fun e w' => e = .returned (.bool true) ∧ Below w.heap.size w w' := by
  rw [fcV_cells hf]
  have HH := Lib.hid h
  have HF := Lib.hid hf
  clear h hf
  go_enter Try.func7, Try.ntmps7
  go_wp2_with fail
  refine (head_any _).mono ?_
  rintro e w1 ⟨rfl, hb⟩
  have HB := Lib.hid hb
  clear hb
  go_upto_region 2 with (fail)
  refine forget (fun W => Below w.heap.size w W ∧ Bk W w.heap.size #[.slice A rs.length cap] 24 ∧ Bk W (w.heap.size + 1) #[.int .i64 (atF f 0), .int .i64 (atF f 1), .int .i64 (atF f 2), .int .i64 (atF f 3), .int .i64 (atF f 4), .int .i64 (atF f 5), .int .i64 (atF f 6), .int .i64 (atF f 7), .int .i64 (atF f 8), .int .i64 (atF f 9)] 26) ⟨Below.trans0 (Below.alloc0 (below_self w _) _) HB.out, ((Bk.new w _ _).alloc _).below HB.out, (bk_new_at _ _ _ _ (by simp)).below HB.out⟩ ?_
  clear HB
  rintro W ⟨hw, b0, b1⟩
  have c0 := b0.cell
  have c1 := b1.cell
  have l0 := b0.lt
  have l1 := b1.lt
  have HW := Lib.hid (And.intro hw (And.intro b0 b1))
  clear hw b0 b1
  obtain ⟨q, hq⟩ : ∃ v, fewP rs 60 = v := ⟨_, rfl⟩
  have HQ := Lib.hid hq
  clear hq
  cases q
  · go_wp2_with (go_at_call 11; refine (few_60 HH.out _ HQ.out _ HW.out.1).mono ?_; rintro e w' ⟨rfl, hb⟩; (first | (obtain ⟨u, rfl⟩ := ext_more hb; clear hb) | (obtain ⟨u, rfl⟩ := ext_more_alloc hb; clear hb) | (obtain ⟨u, rfl⟩ := ext_of hb; clear hb)))
    go_ret
    exact ⟨rfl, by have hw := HW.out.1; (repeat (first | with_reducible exact Below.refl _ _ | with_reducible assumption | with_reducible refine Below.alloc0 ?_ _ | with_reducible refine Below.ext0 ?_ _ | with_reducible refine Below.drew ?_ | with_reducible refine below_drewN ?_ _ | (with_reducible refine Below.setCell (hp := ?hp) ?_ _; case hp => (first | (simp; done) | (simp; omega)))))⟩
  · have hlen : rs.length ≤ 60 := by
      have := HQ.out
      unfold fewP at this
      simp only [Bool.and_eq_true, decide_eq_true_eq] at this
      exact this.1
    have hlen' : (rs.length : Int) ≤ 60 := by omega
    obtain ⟨S, hS⟩ : ∃ s, runJ f rs rs.length = s := ⟨_, rfl⟩
    have HS := Lib.hid hS
    obtain ⟨ok, tg, si, lim, price, fn, fd, tn, td, cn, cd, sn, sd, rn, rd, y, hC⟩ := dcs_lit (runJ f rs rs.length)
    have HC := Lib.hid hC
    have hl1000 : rs.length ≤ 1000 := by omega
    clear hS hC
    go_upto_region 5 with (first
      | (go_at_call 11; refine (few_60 HH.out _ HQ.out _ HW.out.1).mono ?_; rintro e w' ⟨rfl, hb⟩; (first | (obtain ⟨u, rfl⟩ := ext_more hb; clear hb) | (obtain ⟨u, rfl⟩ := ext_more_alloc hb; clear hb) | (obtain ⟨u, rfl⟩ := ext_of hb; clear hb)))
      | (go_at_call 16; refine (dec_in HH.out hl1000 HF.out _ HC.out _ (Below.ext0 HW.out.1 _)).mono ?_; rintro e w' ⟨rfl, hb⟩; (first | (obtain ⟨u, rfl⟩ := ext_more hb; clear hb) | (obtain ⟨u, rfl⟩ := ext_more_alloc hb; clear hb) | (obtain ⟨u, rfl⟩ := ext_of hb; clear hb))))
    refine forget (fun X => Below w.heap.size w X ∧ Bk X w.heap.size #[.slice A rs.length cap] 24 ∧ Bk X (w.heap.size + 1) #[.int .i64 (atF f 0), .int .i64 (atF f 1), .int .i64 (atF f 2), .int .i64 (atF f 3), .int .i64 (atF f 4), .int .i64 (atF f 5), .int .i64 (atF f 6), .int .i64 (atF f 7), .int .i64 (atF f 8), .int .i64 (atF f 9)] 26 ∧ w.heap.size + 1 < (ext W u).heap.size ∧ Bk X (ext W u).heap.size #[.bool ok, .bool tg, .bool si, .int .i64 lim, .int .i64 price, .int .i64 fn, .int .i64 fd, .int .i64 tn, .int .i64 td, .int .i64 cn, .int .i64 cd, .int .i64 sn, .int .i64 sd, .int .i64 rn, .int .i64 rd, .int .i64 y] 37) ⟨?_, ?_, ?_, ?_, ?_⟩ ?_
    · have hw := HW.out.1
      (repeat (first | with_reducible exact Below.refl _ _ | with_reducible assumption | with_reducible refine Below.alloc0 ?_ _ | with_reducible refine Below.ext0 ?_ _ | with_reducible refine Below.drew ?_ | with_reducible refine below_drewN ?_ _ | (with_reducible refine Below.setCell (hp := ?hp) ?_ _; case hp => (first | (simp; done) | (simp; omega)))))
    · exact (HW.out.2.1.ext _).alloc _
    · exact (HW.out.2.2.ext _).alloc _
    · exact Nat.lt_of_lt_of_le HW.out.2.2.lt (size_ext _ _)
    · exact Bk.new _ _ _
    generalize (ext W u).heap.size = g at *
    clear c0 c1 l0 l1 HW HQ
    rintro X ⟨hw, b0, b1, hg, b2⟩
    have HL : Hid (lim = limL (heldK f rs 1)) := Lib.hid (lim_is HC.out)
    have c0 := b0.cell
    have c1 := b1.cell
    have c3 : X.cell? ⟨g, 3, none⟩ = some (.int .i64 lim) := b2.cell 3
    have l0 := b0.lt
    have l1 := b1.lt
    have l2 := b2.lt
    have HX := Lib.hid (And.intro hw (And.intro b0 (And.intro b1 b2)))
    clear hw b0 b1 b2
    obtain ⟨t0, ht0⟩ : ∃ v, foundL f rs lim 0 = v := ⟨_, rfl⟩
    have ht1 : decide (lim = 0) = t0 := by rw [← ht0]; unfold foundL; simp
    have ht2 : (lim == 0) = t0 := ht1
    have Ht0 := Lib.hid ht0
    clear ht0
    go_wp2_with fail
    have Ht1 := Lib.hid ht1
    clear ht1 ht2 c0 c1 c3 l0 l1 l2
    go_loopw [7, 8] (fun t i wr => ∃ (k : Nat), k ≤ rs.length ∧ i = .int .i64 k ∧ t = .bool (foundL f rs lim k) ∧ Below X.heap.size X wr) (fun _ i _ => rs.length - (intOf i).toNat)
    case atStart => exact ⟨0, by omega, rfl, by first | rw [Ht0.out] | (rw [Ht0.out, ← Ht1.out]; done) | (rw [Ht0.out, ← Ht1.out]; simp; done), Below.refl _ _⟩
    case round =>
      obtain ⟨k, hk, rfl, rfl, hlow⟩ := hrel
      have hlw := Below.trans0 HX.out.1 hlow
      have hE := HH.out.keep hlw (Nat.le_refl _)
      have b0 := HX.out.2.1.below hlow
      have b1 := HX.out.2.2.1.below hlow
      have b2 := HX.out.2.2.2.below hlow
      have c0 := b0.cell
      have c1 := b1.cell
      have c3 : wr.cell? ⟨g, 3, none⟩ = some (.int .i64 lim) := b2.cell 3
      have l0 := b0.lt
      have l1 := b1.lt
      have l2 := b2.lt
      have hbr : w.heap.size ≤ wr.heap.size := hlw.size
      have HY := Lib.hid (And.intro hlow hlw)
      clear hlow hlw b0 b1 b2
      by_cases hlt : k < rs.length
      · obtain ⟨b, off, kd, nm, AZ, zs, zc, num, rn1, rd1, sn1, sd1, rfl, hb, Hk, d0, d1, d2, d3, d4, d5, d6, d7, f1, f2, f3, hZ, _, _⟩ := pick_rule hE hlt
        have bw : b < wr.heap.size := by omega
        have hzl : zs.length ≤ 9223372036854775807 := by unfold maxLen at f3; omega
        have hkl : (k : Int) < (rs.length : Int) := by omega
        obtain ⟨hv, hhv⟩ : ∃ v, (zs.any fun z => inZ z f) = v := ⟨_, rfl⟩
        have Hhv := Lib.hid hhv
        have HZ := Lib.hid hZ
        have Hst := Lib.hid (foundL_step (f := f) (lim := lim) Hk.out)
        have Hno : Hid (¬ (kd = 1 ∧ 0 < num ∧ hv = true) → foundL f rs lim (k + 1) = foundL f rs lim k) := Lib.hid fun h => by
          rw [Hst.out, numOk_no (by rintro ⟨a, b, c⟩; exact h ⟨a, b, hhv.symm.trans c⟩)]; simp
        have Hyes : Hid (kd = 1 → 0 < num → hv = true → (0 < lim ∧ lim ≤ num) ∧ foundL f rs lim (k + 1) = (foundL f rs lim k || decide (num = lim))) := Lib.hid fun h1 h2 h3 => by
          have ho : numOk f (kd, nm, zs, num, (rn1, rd1), (sn1, sd1)) = true := by
            unfold numOk holdsB
            simp only
            rw [hhv]
            simp [h1, h2, h3]
          exact ⟨lim_le HL.out Hk.out ho, by rw [Hst.out, ho]; rfl⟩
        clear hE hZ f1 f2 f3 hhv Hst
        generalize foundL f rs lim k = t at *
        by_cases k1 : kd = 1
        · subst k1
          by_cases hn : 0 < num
          · have hn2 : decide (num ≤ 0) = false := decide_eq_false (by omega)
            cases hv
            · have Hn := Lib.hid (Hno.out (by simp))
              clear Hno Hyes
              go_wp2_with (go_at_call 12; refine (holds_in HZ.out hbr hzl HF.out _ Hhv.out _ (below_self _ _)).mono ?_; rintro e w' ⟨rfl, hb⟩; (first | (obtain ⟨u, rfl⟩ := ext_more hb; clear hb) | (obtain ⟨u, rfl⟩ := ext_more_alloc hb; clear hb) | (obtain ⟨u, rfl⟩ := ext_of hb; clear hb)))
              go_roundw
              case rel => exact ⟨k + 1, by omega, by go_num, val_bool Hn.out.symm, by have hw := HY.out.1; (repeat (first | with_reducible exact Below.refl _ _ | with_reducible assumption | with_reducible refine Below.alloc0 ?_ _ | with_reducible refine Below.ext0 ?_ _ | with_reducible refine Below.drew ?_ | with_reducible refine below_drewN ?_ _ | (with_reducible refine Below.setCell (hp := ?hp) ?_ _; case hp => (first | (simp; done) | (simp; omega)))))⟩
              case measure => simp [intOf]; omega
            · obtain ⟨⟨q1, q2⟩, q3⟩ := Hyes.out rfl hn rfl
              have Hn := Lib.hid q3
              have m1 : decide (lim = 0) = false := decide_eq_false (by omega)
              have m2 : decide (num < lim) = false := decide_eq_false (by omega)
              have m3 : (lim == 0) = false := by rw [beq_eq_false_iff_ne]; omega
              clear Hno Hyes q3
              cases t
              · obtain ⟨z, hz⟩ : ∃ v, decide (num = lim) = v := ⟨_, rfl⟩
                have hz2 : (num == lim) = z := by rw [← hz]; rfl
                rw [hz] at Hn
                go_wp2_with (go_at_call 12; refine (holds_in HZ.out hbr hzl HF.out _ Hhv.out _ (below_self _ _)).mono ?_; rintro e w' ⟨rfl, hb⟩; (first | (obtain ⟨u, rfl⟩ := ext_more hb; clear hb) | (obtain ⟨u, rfl⟩ := ext_more_alloc hb; clear hb) | (obtain ⟨u, rfl⟩ := ext_of hb; clear hb)))
                go_roundw
                case rel => exact ⟨k + 1, by omega, by go_num, val_bool (by rw [Hn.out]; simp), by have hw := HY.out.1; (repeat (first | with_reducible exact Below.refl _ _ | with_reducible assumption | with_reducible refine Below.alloc0 ?_ _ | with_reducible refine Below.ext0 ?_ _ | with_reducible refine Below.drew ?_ | with_reducible refine below_drewN ?_ _ | (with_reducible refine Below.setCell (hp := ?hp) ?_ _; case hp => (first | (simp; done) | (simp; omega)))))⟩
                case measure => simp [intOf]; omega
              · go_wp2_with (go_at_call 12; refine (holds_in HZ.out hbr hzl HF.out _ Hhv.out _ (below_self _ _)).mono ?_; rintro e w' ⟨rfl, hb⟩; (first | (obtain ⟨u, rfl⟩ := ext_more hb; clear hb) | (obtain ⟨u, rfl⟩ := ext_more_alloc hb; clear hb) | (obtain ⟨u, rfl⟩ := ext_of hb; clear hb)))
                go_roundw
                case rel => exact ⟨k + 1, by omega, by go_num, val_bool (by rw [Hn.out]; simp), by have hw := HY.out.1; (repeat (first | with_reducible exact Below.refl _ _ | with_reducible assumption | with_reducible refine Below.alloc0 ?_ _ | with_reducible refine Below.ext0 ?_ _ | with_reducible refine Below.drew ?_ | with_reducible refine below_drewN ?_ _ | (with_reducible refine Below.setCell (hp := ?hp) ?_ _; case hp => (first | (simp; done) | (simp; omega)))))⟩
                case measure => simp [intOf]; omega
          · have hn2 : decide (num ≤ 0) = true := decide_eq_true (by omega)
            have Hn := Lib.hid (Hno.out (by rintro ⟨_, a, _⟩; exact hn a))
            clear Hno Hyes
            go_wp2_with fail
            go_roundw
            case rel => exact ⟨k + 1, by omega, by go_num, val_bool Hn.out.symm, by have hw := HY.out.1; (repeat (first | with_reducible exact Below.refl _ _ | with_reducible assumption | with_reducible refine Below.alloc0 ?_ _ | with_reducible refine Below.ext0 ?_ _ | with_reducible refine Below.drew ?_ | with_reducible refine below_drewN ?_ _ | (with_reducible refine Below.setCell (hp := ?hp) ?_ _; case hp => (first | (simp; done) | (simp; omega)))))⟩
            case measure => simp [intOf]; omega
        · have k2 : (kd == 1) = false := by rw [beq_eq_false_iff_ne]; exact k1
          have k3 : decide (kd = 1) = false := decide_eq_false k1
          have Hn := Lib.hid (Hno.out (by rintro ⟨a, _⟩; exact k1 a))
          clear Hno Hyes
          go_wp2_with fail
          go_roundw
          case rel => exact ⟨k + 1, by omega, by go_num, val_bool Hn.out.symm, by have hw := HY.out.1; (repeat (first | with_reducible exact Below.refl _ _ | with_reducible assumption | with_reducible refine Below.alloc0 ?_ _ | with_reducible refine Below.ext0 ?_ _ | with_reducible refine Below.drew ?_ | with_reducible refine below_drewN ?_ _ | (with_reducible refine Below.setCell (hp := ?hp) ?_ _; case hp => (first | (simp; done) | (simp; omega)))))⟩
          case measure => simp [intOf]; omega
      · obtain rfl : k = rs.length := by omega
        have hfd := lim_found HL.out
        generalize foundL f rs lim rs.length = t at *
        subst hfd
        go_wp2_with fail
        go_ret
        exact ⟨rfl, HY.out.2⟩

set_option maxRecDepth 100000 in
theorem decideLimits_lifted (os : Os) (started : os.Started) (H : Type) (enc : TypeId × Value → H) :
    ReturnsInHanded {} Try.checked os 7 .any (Rows.decideLimitsSpec.pre6 enc Try.prog Try.f7 [] false) (Rows.decideLimitsSpec.post enc Try.prog Try.f7 false true false false) := by
  refine law_lifted (C := Try.checked) own started (by kernel_rfl) Try.func7 rfl (fun ds hds => ?_) (tb := 4) (by kernel_rfl) Try.underlying4 laidOut (fun t ht => ?_)
    (ChangeSpec.witness6 (enc := enc) (C := Try.checked) false ⟨#[], #[.agg #[.slice none 0 0], .agg #[.int .i64 0, .int .i64 0, .int .i64 0, .int .i64 0, .int .i64 0, .int .i64 0, .int .i64 0, .int .i64 0, .int .i64 0, .int .i64 0]], []⟩ 8 (by kernel_rfl) (by kernel_rfl) (by kernel_rfl) (by kernel_rfl)) ?_
  · rw [Try.params7] at hds
    match ds, hds with
    | [_, _], _ => rfl
  · have := List.all_eq_true.1 (show (Try.f7.params.toList.all fun t => Try.prog.readableRec t && decide (t < Try.prog.types.size)) = true by kernel_rfl) t ht
    simp only [Bool.and_eq_true, decide_eq_true_eq] at this
    exact this
  · intro W args g
    rw [Try.params7] at g
    obtain ⟨v0, q0, e0, g0, h0⟩ := g.cons_inv
    obtain ⟨v1, q1, rfl, g1, h1⟩ := h0.cons_inv
    obtain rfl := h1.nil_inv
    obtain rfl : args = #[v0, v1] := by cases args; simp_all
    obtain ⟨c0, y0, rfl, r0⟩ := g0.agg Try.underlying24 opensPol
    obtain ⟨c1, y1, rfl, r1⟩ := g1.arr Try.underlying26 opensFc
    obtain ⟨A, cap, e1, b1, b2, b3⟩ := pol_of r0
    obtain ⟨e2, b4, b5⟩ := fac_of r1
    rw [e1, e2]
    exact limits13 A y0 cap y1 W b3 (by unfold maxLen at b2; omega) b4

theorem decideLimits_holds : Rows.DecideLimitsSaid :=
  OpenClaim.holds_of_wide 7 Try.f7 rfl rfl rfl rfl rfl rfl rfl ⟨rfl, rfl, rfl, rfl, rfl⟩ rfl rfl rfl rfl rfl (by kernel_rfl) Try.func7 (by kernel_rfl)
    (of_decide_eq_true (by kernel_rfl)) (by unfold Func.isWrapper; first | (rw [if_pos (by decide +kernel)]; kernel_rfl) | (rw [if_neg (by decide +kernel)]; exact ⟨rfl, rfl⟩))
    (fun os started H enc _ => decideLimits_lifted os started H enc)
#print axioms decideLimits_holds

end Go.Proofs.Ytmklcfmdcfbpeaa
