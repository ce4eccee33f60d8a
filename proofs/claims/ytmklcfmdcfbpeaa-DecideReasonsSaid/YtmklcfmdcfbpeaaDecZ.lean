/- DecideReasons: By is the first denial that holds, or the first permission, or -1, for every policy and facts; no condition. -/
import Derived.Test.YtmklcfmdcfbpeaaDecN
import Derived.Test.YtmklcfmdcfbpeaaDecO
namespace Go.Proofs.Ytmklcfmdcfbpeaa
open Go.RowKit Go.ChangeAt
set_option linter.unusedVariables false
set_option linter.unusedSimpArgs false
attribute [local go_sem] ext_cell ext_frozen lt_ext ext_drew

theorem why_all {f : Fc} {rs : List Rl} {ok tg si : Bool} {lim price fn fd tn td cn cd sn sd rn rd y : Int} (h : dcs (runJ f rs rs.length) = #[.bool ok, .bool tg, .bool si, .int .i64 lim, .int .i64 price, .int .i64 fn, .int .i64 fd, .int .i64 tn, .int .i64 td, .int .i64 cn, .int .i64 cd, .int .i64 sn, .int .i64 sd, .int .i64 rn, .int .i64 rd, .int .i64 y]) :
    (∃ (p : Nat) (r0 : Rl), y = p ∧ p < rs.length ∧ rs[p]? = some r0 ∧ r0.1 = 2 ∧ holdsB r0 f = true ∧ ok = false ∧ ∀ (i : Nat) (r : Rl), rs[i]? = some r → holdsB r f = true → r.1 = 2 → p ≤ i) ∨
    (∃ (p : Nat) (r0 : Rl), y = p ∧ p < rs.length ∧ rs[p]? = some r0 ∧ r0.1 = 1 ∧ holdsB r0 f = true ∧ ∀ (i : Nat) (r : Rl), rs[i]? = some r → holdsB r f = true → r.1 ≠ 2 ∧ (r.1 = 1 → p ≤ i)) ∨
    (y = -1 ∧ ok = false ∧ ∀ (i : Nat) (r : Rl), rs[i]? = some r → holdsB r f = true → r.1 ≠ 2 ∧ r.1 ≠ 1) := by
  rw [dcs_gist] at h
  have h0 := congrArg (fun a : Array Value => a[0]?) h
  have h15 := congrArg (fun a : Array Value => a[15]?) h
  have hok : (someL (heldK f rs 1) && someL (heldK f rs 3) && (heldK f rs 2).isEmpty) = ok := by simpa [decG, decV] using h0
  have hy : byG f rs = y := by simpa [decG, decV] using h15
  clear h h0 h15
  have none_of : ∀ (l : List Rl) (q : Int), heldK f l q = [] → ∀ r ∈ l, holdsB r f = true → r.1 ≠ q := fun l q h r hr hh he => by
    have : r ∈ heldK f l q := by unfold heldK; exact List.mem_filter.2 ⟨hr, by simp [he, hh]⟩
    rw [h] at this; cases this
  have early : ∀ (p : Nat) (q : Int), heldK f (rs.take p) q = [] → ∀ (i : Nat) (r : Rl), rs[i]? = some r → holdsB r f = true → r.1 = q → p ≤ i := fun p q h i r hr hh he => by
    rcases Nat.lt_or_ge i p with hl | hl
    · exact absurd he (none_of _ _ h r (List.mem_of_getElem? (i := i) (by rw [List.getElem?_take_of_lt hl]; exact hr)) hh)
    · exact hl
  unfold byG at hy
  rcases fst_cases f rs 2 with ⟨a1, a2⟩ | ⟨p, r0, a1, a2, a3, a4, a5, a6, a7⟩
  · rw [if_neg (by omega)] at hy
    rcases fst_cases f rs 1 with ⟨b1, b2⟩ | ⟨p, r0, b1, b2, b3, b4, b5, b6, b7⟩
    · right; right
      refine ⟨by omega, by rw [← hok, b2]; rfl, fun i r hr hh => ⟨none_of rs 2 a2 r (List.mem_of_getElem? hr) hh, none_of rs 1 b2 r (List.mem_of_getElem? hr) hh⟩⟩
    · right; left
      exact ⟨p, r0, by omega, b2, b3, b5, b6, fun i r hr hh => ⟨none_of rs 2 a2 r (List.mem_of_getElem? hr) hh, early p 1 b7 i r hr hh⟩⟩
  · left
    rw [if_pos (by omega)] at hy
    refine ⟨p, r0, by omega, a2, a3, a5, a6, ?_, early p 2 a7⟩
    rw [← hok]
    cases hh : heldK f rs 2 with
    | nil => rw [hh] at a4; cases a4
    | cons x l => simp

set_option maxRecDepth 100000 in
set_option maxHeartbeats 4000000 in
theorem reasons13 (A : Option Addr) (rs : List Rl) (cap : Nat) (f : Fc) (w : World) (h : Elems tRl w w.heap.size A rs) (hm : rs.length ≤ 9223372036854775807) (hf : f.length = 10) :
    Calls Try.prog 8 #[.agg #[.slice A rs.length cap], .agg (fcV f)] w fun e w' => e = .returned (.bool true) ∧ Below w.heap.size w w' := by
  rw [fcV_cells hf]
  have HH := Lib.hid h
  have HF := Lib.hid hf
  clear h hf
  go_enter Try.func8, Try.ntmps8
  go_wp2_with fail
  refine (head_any _).mono ?_
  rintro e w1 ⟨rfl, hb⟩
  have HB := Lib.hid hb
  clear hb
  go_upto_region 2 with (fail)
  refine forget (fun W => Below w.heap.size w W ∧ Bk W w.heap.size #[.slice A rs.length cap] 24 ∧ Bk W (w.heap.size + 1) #[.int .i64 (atF f 0), .int .i64 (atF f 1), .int .i64 (atF f 2), .int .i64 (atF f 3), .int .i64 (atF f 4), .int .i64 (atF f 5), .int .i64 (atF f 6), .int .i64 (atF f 7), .int .i64 (atF f 8), .int .i64 (atF f 9)] 26) ⟨Below.trans0 (Below.alloc0 (below_self w _) _) HB.out, ((Bk.new w _ _).alloc _).below HB.out, (bk_new_at _ _ _ _ (by simp)).below HB.out⟩ ?_
  clear HB
  rintro W ⟨hw, b0, b1⟩
  have c0 := b0.cell
  have c1 := b1.cell
  have l0 := b0.lt
  have l1 := b1.lt
  have HW := Lib.hid (And.intro hw (And.intro b0 b1))
  clear hw b0 b1
  obtain ⟨q, hq⟩ : ∃ v, fewP rs 60 = v := ⟨_, rfl⟩
  have HQ := Lib.hid hq
  clear hq
  cases q
  · go_wp2_with (go_at_call 11; refine (few_60 HH.out _ HQ.out _ HW.out.1).mono ?_; rintro e w' ⟨rfl, hb⟩; (first | (obtain ⟨u, rfl⟩ := ext_more hb; clear hb) | (obtain ⟨u, rfl⟩ := ext_more_alloc hb; clear hb) | (obtain ⟨u, rfl⟩ := ext_of hb; clear hb)))
    go_ret
    exact ⟨rfl, by have hw := HW.out.1; (repeat (first | with_reducible exact Below.refl _ _ | with_reducible assumption | with_reducible refine Below.alloc0 ?_ _ | with_reducible refine Below.ext0 ?_ _ | with_reducible refine Below.drew ?_ | with_reducible refine below_drewN ?_ _ | (with_reducible refine Below.setCell (hp := ?hp) ?_ _; case hp => (first | (simp; done) | (simp; omega)))))⟩
  · have hlen : rs.length ≤ 60 := by
      have := HQ.out
      unfold fewP at this
      simp only [Bool.and_eq_true, decide_eq_true_eq] at this
      exact this.1
    have hlen' : (rs.length : Int) ≤ 60 := by omega
    obtain ⟨S, hS⟩ : ∃ s, runJ f rs rs.length = s := ⟨_, rfl⟩
    have HS := Lib.hid hS
    obtain ⟨ok, tg, si, lim, price, fn, fd, tn, td, cn, cd, sn, sd, rn, rd, y, hC⟩ := dcs_lit (runJ f rs rs.length)
    have HC := Lib.hid hC
    have hl1000 : rs.length ≤ 1000 := by omega
    clear hS hC
    go_upto_region 5 with (first
      | (go_at_call 11; refine (few_60 HH.out _ HQ.out _ HW.out.1).mono ?_; rintro e w' ⟨rfl, hb⟩; (first | (obtain ⟨u, rfl⟩ := ext_more hb; clear hb) | (obtain ⟨u, rfl⟩ := ext_more_alloc hb; clear hb) | (obtain ⟨u, rfl⟩ := ext_of hb; clear hb)))
      | (go_at_call 16; refine (dec_in HH.out hl1000 HF.out _ HC.out _ (Below.ext0 HW.out.1 _)).mono ?_; rintro e w' ⟨rfl, hb⟩; (first | (obtain ⟨u, rfl⟩ := ext_more hb; clear hb) | (obtain ⟨u, rfl⟩ := ext_more_alloc hb; clear hb) | (obtain ⟨u, rfl⟩ := ext_of hb; clear hb))))
    refine forget (fun X => Below w.heap.size w X ∧ Bk X w.heap.size #[.slice A rs.length cap] 24 ∧ Bk X (w.heap.size + 1) #[.int .i64 (atF f 0), .int .i64 (atF f 1), .int .i64 (atF f 2), .int .i64 (atF f 3), .int .i64 (atF f 4), .int .i64 (atF f 5), .int .i64 (atF f 6), .int .i64 (atF f 7), .int .i64 (atF f 8), .int .i64 (atF f 9)] 26 ∧ w.heap.size + 1 < (ext W u).heap.size ∧ Bk X (ext W u).heap.size #[.bool ok, .bool tg, .bool si, .int .i64 lim, .int .i64 price, .int .i64 fn, .int .i64 fd, .int .i64 tn, .int .i64 td, .int .i64 cn, .int .i64 cd, .int .i64 sn, .int .i64 sd, .int .i64 rn, .int .i64 rd, .int .i64 y] 37) ⟨?_, ?_, ?_, ?_, ?_⟩ ?_
    · have hw := HW.out.1
      (repeat (first | with_reducible exact Below.refl _ _ | with_reducible assumption | with_reducible refine Below.alloc0 ?_ _ | with_reducible refine Below.ext0 ?_ _ | with_reducible refine Below.drew ?_ | with_reducible refine below_drewN ?_ _ | (with_reducible refine Below.setCell (hp := ?hp) ?_ _; case hp => (first | (simp; done) | (simp; omega)))))
    · exact (HW.out.2.1.ext _).alloc _
    · exact (HW.out.2.2.ext _).alloc _
    · exact Nat.lt_of_lt_of_le HW.out.2.2.lt (size_ext _ _)
    · exact Bk.new _ _ _
    generalize (ext W u).heap.size = g at *
    clear c0 c1 l0 l1 HW HQ
    rintro X ⟨hw, b0, b1, hg, b2⟩
    have hwhy := why_all HC.out
    clear HS HC
    have c0 := b0.cell
    have l0 := b0.lt
    have l2 := b2.lt
    have c15 := b2.cell 15
    have HX := Lib.hid (And.intro hw (And.intro b0 (And.intro b1 b2)))
    clear hw b0 b1 b2
    rcases hwhy with ⟨p, ⟨kp, nmp, zsp, np, ⟨rnp, rdp⟩, ⟨snp, sdp⟩⟩, rfl, hp, hrp, hkp, hhp, rfl, hall⟩ | ⟨p, ⟨kp, nmp, zsp, np, ⟨rnp, rdp⟩, ⟨snp, sdp⟩⟩, rfl, hp, hrp, hkp, hhp, hall⟩ | ⟨rfl, rfl, hall⟩
    · have Hall := Lib.hid hall
      clear hall
      have hkp : kp = 2 := hkp
      subst hkp
      have Hrp := Lib.hid (And.intro hrp hhp)
      clear hrp hhp
      have hp' : (p : Int) < (rs.length : Int) := by omega
      have y1 : decide ((p : Int) < -1) = false := decide_eq_false (by omega)
      have y2 : decide ((rs.length : Int) ≤ (p : Int)) = false := decide_eq_false (by omega)
      have y3 : decide ((p : Int) < 0) = false := decide_eq_false (by omega)
      go_wp2_with fail
      clear c0 l0 l2 c15
      go_loopw [7] (fun i wr => ∃ (k : Nat), k ≤ rs.length ∧ i = .int .i64 k ∧ Below X.heap.size X wr) (fun i _ => rs.length - (intOf i).toNat)
      case atStart => exact ⟨0, by omega, rfl, Below.refl _ _⟩
      case round =>
        obtain ⟨k, hk, rfl, hlow⟩ := hrel
        have hlw := Below.trans0 HX.out.1 hlow
        have hE := HH.out.keep hlw (Nat.le_refl _)
        have b0 := HX.out.2.1.below hlow
        have b1 := HX.out.2.2.1.below hlow
        have b2 := HX.out.2.2.2.below hlow
        have c0 := b0.cell
        have c1 := b1.cell
        have dd0 := b2.cell 0
        have dd15 := b2.cell 15
        have l0 := b0.lt
        have l1 := b1.lt
        have l2 := b2.lt
        have hbr : w.heap.size ≤ wr.heap.size := hlw.size
        have HY := Lib.hid (And.intro hlow hlw)
        clear hlow hlw b0 b1 b2
        obtain ⟨b', off', kd', nm', AZ', zs', zc', num', rn', rd', sn', sd', hA', hb', Hk', e0, e1, e2, e3, e4, e5, e6, e7, _, _, _, _, _, _⟩ := pick_rule hE hp
        have hkd : kd' = 2 := by have := Hrp.out.1.symm.trans Hk'.out; simp only [Option.some.injEq, Prod.mk.injEq] at this; exact this.1.symm
        subst hkd
        clear e1 e2 e3 e4 e5 e6 e7 Hk'
        subst hA'
        have bw' : b' < wr.heap.size := by omega
        by_cases hlt : k < rs.length
        · obtain ⟨b, off, kd, nm, AZ, zs, zc, num, rn1, rd1, sn1, sd1, hA, hb, Hk, d0, d1, d2, d3, d4, d5, d6, d7, f1, f2, f3, hZ, _, _⟩ := pick_rule hE hlt
          simp only [Option.some.injEq, Addr.mk.injEq, and_true] at hA
          obtain ⟨rfl, rfl⟩ := hA
          have bw : b' < wr.heap.size := by omega
          have hzl : zs.length ≤ 9223372036854775807 := by unfold maxLen at f3; omega
          have hkl : (k : Int) < (rs.length : Int) := by omega
          obtain ⟨hv, hhv⟩ : ∃ v, (zs.any fun z => inZ z f) = v := ⟨_, rfl⟩
          have Hhv := Lib.hid hhv
          have HZ := Lib.hid hZ
          clear hE hZ f1 f2 f3 hhv
          cases hv
          · have hne : k ≠ p := by
              rintro rfl
              have h1 := Hrp.out.1.symm.trans Hk.out
              have h2 := Hrp.out.2
              rw [Option.some.inj h1] at h2
              exact absurd (Hhv.out.symm.trans h2) (by decide)
            have n1 : ((k : Int) == (p : Int)) = false := by rw [beq_eq_false_iff_ne]; omega
            have n2 : decide ((k : Int) = (p : Int)) = false := decide_eq_false (by omega)
            have n3 : (k == p) = false := by rw [beq_eq_false_iff_ne]; exact hne
            have n4 : decide (k = p) = false := decide_eq_false hne
            go_wp2_with (go_at_call 12; refine (holds_in HZ.out hbr hzl HF.out _ Hhv.out _ (below_self _ _)).mono ?_; rintro e w' ⟨rfl, hb⟩; (first | (obtain ⟨u, rfl⟩ := ext_more hb; clear hb) | (obtain ⟨u, rfl⟩ := ext_more_alloc hb; clear hb) | (obtain ⟨u, rfl⟩ := ext_of hb; clear hb)))
            go_roundw
            case rel => exact ⟨k + 1, by omega, by go_num, by have hw := HY.out.1; (repeat (first | with_reducible exact Below.refl _ _ | with_reducible assumption | with_reducible refine Below.alloc0 ?_ _ | with_reducible refine Below.ext0 ?_ _ | with_reducible refine Below.drew ?_ | with_reducible refine below_drewN ?_ _ | (with_reducible refine Below.setCell (hp := ?hp) ?_ _; case hp => (first | (simp; done) | (simp; omega)))))⟩
            case measure => simp [intOf]; omega
          · have hle : kd = 2 → p ≤ k := fun h => Hall.out k _ Hk.out Hhv.out h
            by_cases k2 : kd = 2
            · subst k2
              have hpk := hle rfl
              have n2 : decide ((k : Int) < (p : Int)) = false := decide_eq_false (by omega)
              have n3 : decide (k < p) = false := decide_eq_false (by omega)
              clear hle
              go_wp2_with (go_at_call 12; refine (holds_in HZ.out hbr hzl HF.out _ Hhv.out _ (below_self _ _)).mono ?_; rintro e w' ⟨rfl, hb⟩; (first | (obtain ⟨u, rfl⟩ := ext_more hb; clear hb) | (obtain ⟨u, rfl⟩ := ext_more_alloc hb; clear hb) | (obtain ⟨u, rfl⟩ := ext_of hb; clear hb)))
              go_roundw
              case rel => exact ⟨k + 1, by omega, by go_num, by have hw := HY.out.1; (repeat (first | with_reducible exact Below.refl _ _ | with_reducible assumption | with_reducible refine Below.alloc0 ?_ _ | with_reducible refine Below.ext0 ?_ _ | with_reducible refine Below.drew ?_ | with_reducible refine below_drewN ?_ _ | (with_reducible refine Below.setCell (hp := ?hp) ?_ _; case hp => (first | (simp; done) | (simp; omega)))))⟩
              case measure => simp [intOf]; omega
            · have n1 : (kd == 2) = false := by rw [beq_eq_false_iff_ne]; exact k2
              have n2 : decide (kd = 2) = false := decide_eq_false k2
              clear hle
              by_cases k1 : kd = 1
              · subst k1
                go_wp2_with (go_at_call 12; refine (holds_in HZ.out hbr hzl HF.out _ Hhv.out _ (below_self _ _)).mono ?_; rintro e w' ⟨rfl, hb⟩; (first | (obtain ⟨u, rfl⟩ := ext_more hb; clear hb) | (obtain ⟨u, rfl⟩ := ext_more_alloc hb; clear hb) | (obtain ⟨u, rfl⟩ := ext_of hb; clear hb)))
                go_roundw
                case rel => exact ⟨k + 1, by omega, by go_num, by have hw := HY.out.1; (repeat (first | with_reducible exact Below.refl _ _ | with_reducible assumption | with_reducible refine Below.alloc0 ?_ _ | with_reducible refine Below.ext0 ?_ _ | with_reducible refine Below.drew ?_ | with_reducible refine below_drewN ?_ _ | (with_reducible refine Below.setCell (hp := ?hp) ?_ _; case hp => (first | (simp; done) | (simp; omega)))))⟩
                case measure => simp [intOf]; omega
              · have n3 : (kd == 1) = false := by rw [beq_eq_false_iff_ne]; exact k1
                have n4 : decide (kd = 1) = false := decide_eq_false k1
                go_wp2_with (go_at_call 12; refine (holds_in HZ.out hbr hzl HF.out _ Hhv.out _ (below_self _ _)).mono ?_; rintro e w' ⟨rfl, hb⟩; (first | (obtain ⟨u, rfl⟩ := ext_more hb; clear hb) | (obtain ⟨u, rfl⟩ := ext_more_alloc hb; clear hb) | (obtain ⟨u, rfl⟩ := ext_of hb; clear hb)))
                go_roundw
                case rel => exact ⟨k + 1, by omega, by go_num, by have hw := HY.out.1; (repeat (first | with_reducible exact Below.refl _ _ | with_reducible assumption | with_reducible refine Below.alloc0 ?_ _ | with_reducible refine Below.ext0 ?_ _ | with_reducible refine Below.drew ?_ | with_reducible refine below_drewN ?_ _ | (with_reducible refine Below.setCell (hp := ?hp) ?_ _; case hp => (first | (simp; done) | (simp; omega)))))⟩
                case measure => simp [intOf]; omega
        · obtain rfl : k = rs.length := by omega
          go_wp2_with fail
          go_ret
          exact ⟨rfl, by have hw := HY.out.2; (repeat (first | with_reducible exact Below.refl _ _ | with_reducible assumption | with_reducible refine Below.alloc0 ?_ _ | with_reducible refine Below.ext0 ?_ _ | with_reducible refine Below.drew ?_ | with_reducible refine below_drewN ?_ _ | (with_reducible refine Below.setCell (hp := ?hp) ?_ _; case hp => (first | (simp; done) | (simp; omega)))))⟩
    · have Hall := Lib.hid hall
      clear hall
      have hkp : kp = 1 := hkp
      subst hkp
      have Hrp := Lib.hid (And.intro hrp hhp)
      clear hrp hhp
      have hp' : (p : Int) < (rs.length : Int) := by omega
      have y1 : decide ((p : Int) < -1) = false := decide_eq_false (by omega)
      have y2 : decide ((rs.length : Int) ≤ (p : Int)) = false := decide_eq_false (by omega)
      have y3 : decide ((p : Int) < 0) = false := decide_eq_false (by omega)
      go_wp2_with fail
      clear c0 l0 l2 c15
      go_loopw [7] (fun i wr => ∃ (k : Nat), k ≤ rs.length ∧ i = .int .i64 k ∧ Below X.heap.size X wr) (fun i _ => rs.length - (intOf i).toNat)
      case atStart => exact ⟨0, by omega, rfl, Below.refl _ _⟩
      case round =>
        obtain ⟨k, hk, rfl, hlow⟩ := hrel
        have hlw := Below.trans0 HX.out.1 hlow
        have hE := HH.out.keep hlw (Nat.le_refl _)
        have b0 := HX.out.2.1.below hlow
        have b1 := HX.out.2.2.1.below hlow
        have b2 := HX.out.2.2.2.below hlow
        have c0 := b0.cell
        have c1 := b1.cell
        have dd0 := b2.cell 0
        have dd15 := b2.cell 15
        have l0 := b0.lt
        have l1 := b1.lt
        have l2 := b2.lt
        have hbr : w.heap.size ≤ wr.heap.size := hlw.size
        have HY := Lib.hid (And.intro hlow hlw)
        clear hlow hlw b0 b1 b2
        obtain ⟨b', off', kd', nm', AZ', zs', zc', num', rn', rd', sn', sd', hA', hb', Hk', e0, e1, e2, e3, e4, e5, e6, e7, _, _, _, _, _, _⟩ := pick_rule hE hp
        have hkd : kd' = 1 := by have := Hrp.out.1.symm.trans Hk'.out; simp only [Option.some.injEq, Prod.mk.injEq] at this; exact this.1.symm
        subst hkd
        clear e1 e2 e3 e4 e5 e6 e7 Hk'
        subst hA'
        have bw' : b' < wr.heap.size := by omega
        by_cases hlt : k < rs.length
        · obtain ⟨b, off, kd, nm, AZ, zs, zc, num, rn1, rd1, sn1, sd1, hA, hb, Hk, d0, d1, d2, d3, d4, d5, d6, d7, f1, f2, f3, hZ, _, _⟩ := pick_rule hE hlt
          simp only [Option.some.injEq, Addr.mk.injEq, and_true] at hA
          obtain ⟨rfl, rfl⟩ := hA
          have bw : b' < wr.heap.size := by omega
          have hzl : zs.length ≤ 9223372036854775807 := by unfold maxLen at f3; omega
          have hkl : (k : Int) < (rs.length : Int) := by omega
          obtain ⟨hv, hhv⟩ : ∃ v, (zs.any fun z => inZ z f) = v := ⟨_, rfl⟩
          have Hhv := Lib.hid hhv
          have HZ := Lib.hid hZ
          clear hE hZ f1 f2 f3 hhv
          cases hv
          · have hne : k ≠ p := by
              rintro rfl
              have h1 := Hrp.out.1.symm.trans Hk.out
              have h2 := Hrp.out.2
              rw [Option.some.inj h1] at h2
              exact absurd (Hhv.out.symm.trans h2) (by decide)
            have n1 : ((k : Int) == (p : Int)) = false := by rw [beq_eq_false_iff_ne]; omega
            have n2 : decide ((k : Int) = (p : Int)) = false := decide_eq_false (by omega)
            have n3 : (k == p) = false := by rw [beq_eq_false_iff_ne]; exact hne
            have n4 : decide (k = p) = false := decide_eq_false hne
            go_wp2_with (go_at_call 12; refine (holds_in HZ.out hbr hzl HF.out _ Hhv.out _ (below_self _ _)).mono ?_; rintro e w' ⟨rfl, hb⟩; (first | (obtain ⟨u, rfl⟩ := ext_more hb; clear hb) | (obtain ⟨u, rfl⟩ := ext_more_alloc hb; clear hb) | (obtain ⟨u, rfl⟩ := ext_of hb; clear hb)))
            go_roundw
            case rel => exact ⟨k + 1, by omega, by go_num, by have hw := HY.out.1; (repeat (first | with_reducible exact Below.refl _ _ | with_reducible assumption | with_reducible refine Below.alloc0 ?_ _ | with_reducible refine Below.ext0 ?_ _ | with_reducible refine Below.drew ?_ | with_reducible refine below_drewN ?_ _ | (with_reducible refine Below.setCell (hp := ?hp) ?_ _; case hp => (first | (simp; done) | (simp; omega)))))⟩
            case measure => simp [intOf]; omega
          · have hal := Hall.out k _ Hk.out Hhv.out
            have k2 : kd ≠ 2 := hal.1
            have hle : kd = 1 → p ≤ k := hal.2
            clear hal
            have n1 : (kd == 2) = false := by rw [beq_eq_false_iff_ne]; exact k2
            have n2 : decide (kd = 2) = false := decide_eq_false k2
            by_cases k1 : kd = 1
            · subst k1
              have hpk := hle rfl
              have n2 : decide ((k : Int) < (p : Int)) = false := decide_eq_false (by omega)
              have n3 : decide (k < p) = false := decide_eq_false (by omega)
              clear hle
              go_wp2_with (go_at_call 12; refine (holds_in HZ.out hbr hzl HF.out _ Hhv.out _ (below_self _ _)).mono ?_; rintro e w' ⟨rfl, hb⟩; (first | (obtain ⟨u, rfl⟩ := ext_more hb; clear hb) | (obtain ⟨u, rfl⟩ := ext_more_alloc hb; clear hb) | (obtain ⟨u, rfl⟩ := ext_of hb; clear hb)))
              go_roundw
              case rel => exact ⟨k + 1, by omega, by go_num, by have hw := HY.out.1; (repeat (first | with_reducible exact Below.refl _ _ | with_reducible assumption | with_reducible refine Below.alloc0 ?_ _ | with_reducible refine Below.ext0 ?_ _ | with_reducible refine Below.drew ?_ | with_reducible refine below_drewN ?_ _ | (with_reducible refine Below.setCell (hp := ?hp) ?_ _; case hp => (first | (simp; done) | (simp; omega)))))⟩
              case measure => simp [intOf]; omega
            · have n3 : (kd == 1) = false := by rw [beq_eq_false_iff_ne]; exact k1
              have n4 : decide (kd = 1) = false := decide_eq_false k1
              clear hle
              go_wp2_with (go_at_call 12; refine (holds_in HZ.out hbr hzl HF.out _ Hhv.out _ (below_self _ _)).mono ?_; rintro e w' ⟨rfl, hb⟩; (first | (obtain ⟨u, rfl⟩ := ext_more hb; clear hb) | (obtain ⟨u, rfl⟩ := ext_more_alloc hb; clear hb) | (obtain ⟨u, rfl⟩ := ext_of hb; clear hb)))
              go_roundw
              case rel => exact ⟨k + 1, by omega, by go_num, by have hw := HY.out.1; (repeat (first | with_reducible exact Below.refl _ _ | with_reducible assumption | with_reducible refine Below.alloc0 ?_ _ | with_reducible refine Below.ext0 ?_ _ | with_reducible refine Below.drew ?_ | with_reducible refine below_drewN ?_ _ | (with_reducible refine Below.setCell (hp := ?hp) ?_ _; case hp => (first | (simp; done) | (simp; omega)))))⟩
              case measure => simp [intOf]; omega
        · obtain rfl : k = rs.length := by omega
          go_wp2_with fail
          go_ret
          exact ⟨rfl, by have hw := HY.out.2; (repeat (first | with_reducible exact Below.refl _ _ | with_reducible assumption | with_reducible refine Below.alloc0 ?_ _ | with_reducible refine Below.ext0 ?_ _ | with_reducible refine Below.drew ?_ | with_reducible refine below_drewN ?_ _ | (with_reducible refine Below.setCell (hp := ?hp) ?_ _; case hp => (first | (simp; done) | (simp; omega)))))⟩
    · have Hall := Lib.hid hall
      clear hall
      go_wp2_with fail
      clear c0 l0 l2 c15
      go_loopw [7] (fun i wr => ∃ (k : Nat), k ≤ rs.length ∧ i = .int .i64 k ∧ Below X.heap.size X wr) (fun i _ => rs.length - (intOf i).toNat)
      case atStart => exact ⟨0, by omega, rfl, Below.refl _ _⟩
      case round =>
        obtain ⟨k, hk, rfl, hlow⟩ := hrel
        have hlw := Below.trans0 HX.out.1 hlow
        have hE := HH.out.keep hlw (Nat.le_refl _)
        have b0 := HX.out.2.1.below hlow
        have b1 := HX.out.2.2.1.below hlow
        have b2 := HX.out.2.2.2.below hlow
        have c0 := b0.cell
        have c1 := b1.cell
        have dd0 := b2.cell 0
        have dd15 := b2.cell 15
        have l0 := b0.lt
        have l1 := b1.lt
        have l2 := b2.lt
        have hbr : w.heap.size ≤ wr.heap.size := hlw.size
        have HY := Lib.hid (And.intro hlow hlw)
        clear hlow hlw b0 b1 b2
        by_cases hlt : k < rs.length
        · obtain ⟨b, off, kd, nm, AZ, zs, zc, num, rn1, rd1, sn1, sd1, hA, hb, Hk, d0, d1, d2, d3, d4, d5, d6, d7, f1, f2, f3, hZ, _, _⟩ := pick_rule hE hlt
          subst hA
          have bw : b < wr.heap.size := by omega
          have hzl : zs.length ≤ 9223372036854775807 := by unfold maxLen at f3; omega
          have hkl : (k : Int) < (rs.length : Int) := by omega
          obtain ⟨hv, hhv⟩ : ∃ v, (zs.any fun z => inZ z f) = v := ⟨_, rfl⟩
          have Hhv := Lib.hid hhv
          have HZ := Lib.hid hZ
          clear hE hZ f1 f2 f3 hhv
          cases hv
          · have n1 : ((k : Int) == (-1 : Int)) = false := by rw [beq_eq_false_iff_ne]; omega
            have n2 : decide ((k : Int) = (-1 : Int)) = false := decide_eq_false (by omega)
            go_wp2_with (go_at_call 12; refine (holds_in HZ.out hbr hzl HF.out _ Hhv.out _ (below_self _ _)).mono ?_; rintro e w' ⟨rfl, hb⟩; (first | (obtain ⟨u, rfl⟩ := ext_more hb; clear hb) | (obtain ⟨u, rfl⟩ := ext_more_alloc hb; clear hb) | (obtain ⟨u, rfl⟩ := ext_of hb; clear hb)))
            go_roundw
            case rel => exact ⟨k + 1, by omega, by go_num, by have hw := HY.out.1; (repeat (first | with_reducible exact Below.refl _ _ | with_reducible assumption | with_reducible refine Below.alloc0 ?_ _ | with_reducible refine Below.ext0 ?_ _ | with_reducible refine Below.drew ?_ | with_reducible refine below_drewN ?_ _ | (with_reducible refine Below.setCell (hp := ?hp) ?_ _; case hp => (first | (simp; done) | (simp; omega)))))⟩
            case measure => simp [intOf]; omega
          · have hal := Hall.out k _ Hk.out Hhv.out
            have k2 : kd ≠ 2 := hal.1
            have k1 : kd ≠ 1 := hal.2
            clear hal
            have n1 : (kd == 2) = false := by rw [beq_eq_false_iff_ne]; exact k2
            have n2 : decide (kd = 2) = false := decide_eq_false k2
            have n3 : (kd == 1) = false := by rw [beq_eq_false_iff_ne]; exact k1
            have n4 : decide (kd = 1) = false := decide_eq_false k1
            go_wp2_with (go_at_call 12; refine (holds_in HZ.out hbr hzl HF.out _ Hhv.out _ (below_self _ _)).mono ?_; rintro e w' ⟨rfl, hb⟩; (first | (obtain ⟨u, rfl⟩ := ext_more hb; clear hb) | (obtain ⟨u, rfl⟩ := ext_more_alloc hb; clear hb) | (obtain ⟨u, rfl⟩ := ext_of hb; clear hb)))
            go_roundw
            case rel => exact ⟨k + 1, by omega, by go_num, by have hw := HY.out.1; (repeat (first | with_reducible exact Below.refl _ _ | with_reducible assumption | with_reducible refine Below.alloc0 ?_ _ | with_reducible refine Below.ext0 ?_ _ | with_reducible refine Below.drew ?_ | with_reducible refine below_drewN ?_ _ | (with_reducible refine Below.setCell (hp := ?hp) ?_ _; case hp => (first | (simp; done) | (simp; omega)))))⟩
            case measure => simp [intOf]; omega
        · obtain rfl : k = rs.length := by omega
          go_wp2_with fail
          go_ret
          exact ⟨rfl, by have hw := HY.out.2; (repeat (first | with_reducible exact Below.refl _ _ | with_reducible assumption | with_reducible refine Below.alloc0 ?_ _ | with_reducible refine Below.ext0 ?_ _ | with_reducible refine Below.drew ?_ | with_reducible refine below_drewN ?_ _ | (with_reducible refine Below.setCell (hp := ?hp) ?_ _; case hp => (first | (simp; done) | (simp; omega)))))⟩

set_option maxRecDepth 100000 in
theorem decideReasons_lifted (os : Os) (started : os.Started) (H : Type) (enc : TypeId × Value → H) :
    ReturnsInHanded {} Try.checked os 8 .any (Rows.decideReasonsSpec.pre6 enc Try.prog Try.f8 [] false) (Rows.decideReasonsSpec.post enc Try.prog Try.f8 false true false false) := by
  refine law_lifted (C := Try.checked) own started (by kernel_rfl) Try.func8 rfl (fun ds hds => ?_) (tb := 4) (by kernel_rfl) Try.underlying4 laidOut (fun t ht => ?_)
    (ChangeSpec.witness6 (enc := enc) (C := Try.checked) false ⟨#[], #[.agg #[.slice none 0 0], .agg #[.int .i64 0, .int .i64 0, .int .i64 0, .int .i64 0, .int .i64 0, .int .i64 0, .int .i64 0, .int .i64 0, .int .i64 0, .int .i64 0]], []⟩ 8 (by kernel_rfl) (by kernel_rfl) (by kernel_rfl) (by kernel_rfl)) ?_
  · rw [Try.params8] at hds
    match ds, hds with
    | [_, _], _ => rfl
  · have := List.all_eq_true.1 (show (Try.f8.params.toList.all fun t => Try.prog.readableRec t && decide (t < Try.prog.types.size)) = true by kernel_rfl) t ht
    simp only [Bool.and_eq_true, decide_eq_true_eq] at this
    exact this
  · intro W args g
    rw [Try.params8] at g
    obtain ⟨v0, q0, e0, g0, h0⟩ := g.cons_inv
    obtain ⟨v1, q1, rfl, g1, h1⟩ := h0.cons_inv
    obtain rfl := h1.nil_inv
    obtain rfl : args = #[v0, v1] := by cases args; simp_all
    obtain ⟨c0, y0, rfl, r0⟩ := g0.agg Try.underlying24 opensPol
    obtain ⟨c1, y1, rfl, r1⟩ := g1.arr Try.underlying26 opensFc
    obtain ⟨A, cap, e1, b1, b2, b3⟩ := pol_of r0
    obtain ⟨e2, b4, b5⟩ := fac_of r1
    rw [e1, e2]
    exact reasons13 A y0 cap y1 W b3 (by unfold maxLen at b2; omega) b4

theorem decideReasons_holds : Rows.DecideReasonsSaid :=
  OpenClaim.holds_of_wide 8 Try.f8 rfl rfl rfl rfl rfl rfl rfl ⟨rfl, rfl, rfl, rfl, rfl⟩ rfl rfl rfl rfl rfl (by kernel_rfl) Try.func8 (by kernel_rfl)
    (of_decide_eq_true (by kernel_rfl)) (by unfold Func.isWrapper; first | (rw [if_pos (by decide +kernel)]; kernel_rfl) | (rw [if_neg (by decide +kernel)]; exact ⟨rfl, rfl⟩))
    (fun os started H enc _ => decideReasons_lifted os started H enc)
#print axioms decideReasons_holds

end Go.Proofs.Ytmklcfmdcfbpeaa
