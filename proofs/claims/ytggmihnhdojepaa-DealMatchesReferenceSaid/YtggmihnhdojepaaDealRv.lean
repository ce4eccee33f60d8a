/- Layer 34 (deal), the reference: Resale. -/
import Derived.Test.YtggmihnhdojepaaDealS
import Derived.Test.YtggmihnhdojepaaDealQ
namespace Go.Proofs.Ytggmihnhdojepaa
open Go.RowKit Go.ChangeAt
set_option linter.unusedVariables false
set_option linter.unusedSimpArgs false
attribute [local go_sem] ext_cell ext_frozen lt_ext ext_drew
theorem resale_cond {n : Int} {ls : List Ln} {total cn cd sn sd : Int} {pn : ByteArray} {ms : List Mn} :
    (0 ≤ n ∧ totB ms = true ∧ nameB pn = true ∧ shareE n sn sd = 0 ∧ sn ≤ sd ∧ backE 1 ls total cn cd ≠ 1) ↔ (0 ≤ n ∧ n ≤ 1000000000 ∧ rightB ls total = true ∧ ratioB cn cd = true ∧ ratioB sn sd = true ∧ sn ≤ sd ∧ nameB pn = true ∧ totB ms = true) := by
  have hback : backE 1 ls total cn cd ≠ 1 ↔ rightB ls total = true ∧ ratioB cn cd = true := by
    unfold backE
    by_cases hr : rightB ls total = true
    · rw [if_pos hr]
      obtain ⟨hall, hsum, ht0, ht1⟩ := right_out hr
      have b1 := partOf_bd 1 ls hall
      have hv : validB (partOf 1 ls) = true := by
        unfold validB
        rw [decide_eq_true (show -1000000000 ≤ partOf 1 ls by omega), decide_eq_true (show partOf 1 ls ≤ 1000000000 by omega)]
        rfl
      unfold shareE
      rw [hv, Bool.true_and]
      by_cases hc : ratioB cn cd = true
      · rw [if_pos hc]
        constructor
        · intro _; exact ⟨hr, hc⟩
        · intro _; split <;> decide
      · rw [if_neg hc]
        constructor
        · intro h; exact absurd rfl h
        · intro h; exact absurd h.2 hc
    · rw [if_neg hr]
      constructor
      · intro h; exact absurd rfl h
      · intro h; exact absurd h.1 hr
  constructor
  · rintro ⟨h1, h2, h3, h4, h5, h6⟩
    obtain ⟨s1, s2, _, _⟩ := share_zero h4
    exact ⟨h1, s1.2, (hback.1 h6).1, (hback.1 h6).2, s2, h5, h3, h2⟩
  · rintro ⟨h1, h2, h3, h4, h5, h6, h7, h8⟩
    refine ⟨h1, h8, h7, ?_, h6, hback.2 ⟨h3, h4⟩⟩
    obtain ⟨r1, r2, r3, r4⟩ := ratioB_out h5
    have hx : roundP (n * sn) sd ≤ n := round_top (d := sd) (by omega) (Int.mul_le_mul_of_nonneg_left h6 h1)
    have hx0 : 0 ≤ roundP (n * sn) sd := by
      have : 0 ≤ n * sn / sd := Int.ediv_nonneg (Int.mul_nonneg h1 (by omega)) (by omega)
      unfold roundP
      split <;> omega
    unfold shareE validB
    rw [h5, decide_eq_true (show -1000000000 ≤ n by omega), decide_eq_true h2, decide_eq_true (show -1000000000 ≤ roundP (n * sn) sd by omega), decide_eq_true (show roundP (n * sn) sd ≤ 1000000000 by omega)]
    rfl
theorem rtop_in {A : Option Addr} {ls : List Ln} {cap k : Nat} {total : Int} {w : World} {B : Nat} (h : Elems tLine w B A ls) (hB : B ≤ w.heap.size) (hn : ls.length = k) (hl : k ≤ 60) (ht : fits total) (a b v e' : Int) (h1 : backV 1 ls total a b = v) (h2 : backE 1 ls total a b = e') : ∀ X, Below w.heap.size w X → Calls Try.prog 41 #[.agg #[.slice A k cap, .int .i64 total], .agg #[.int .i64 a, .int .i64 b]] X fun e w' => e = .returned (.tuple #[.int .i64 v, .int .i64 e']) ∧ Below X.heap.size X w' := fun X hX => by
  have := rtop_any (A := A) (ls := ls) (cap := cap) (n := k) (total := total) (num := a) (den := b) (w := X) (B := B) (h.keep (hX.mono hB) (Nat.le_refl _)) (by have := hX.size; omega) hn hl ht
  rwa [h1, h2] at this
theorem rshare_in (n a b v e' : Int) (h1 : shareV n a b = v) (h2 : shareE n a b = e') : ∀ X, Calls Try.prog 42 #[.int .i64 n, .agg #[.int .i64 a, .int .i64 b]] X fun e w' => e = .returned (.tuple #[.int .i64 v, .int .i64 e']) ∧ Below X.heap.size X w' := fun X => by
  have := rshare_any n a b X
  rwa [h1, h2] at this
theorem rratio_in (a b : Int) (r : Bool) (h : ratioB a b = r) : ∀ X, Calls Try.prog 40 #[.agg #[.int .i64 a, .int .i64 b]] X fun e w' => e = .returned (.bool r) ∧ Below X.heap.size X w' := fun X => by
  have := rratio_any a b X
  rwa [h] at this
set_option maxRecDepth 100000 in
set_option maxHeartbeats 60000000 in
theorem rresale_any {A : Option Addr} {ls : List Ln} {cap k : Nat} {total : Int} {A2 : Option Addr} {ms : List Mn} {cap2 n2 : Nat} {pn : ByteArray} {w : World} {B : Nat} (ok tg si : Bool) (lim price fn fd tn td cn cd sn sd rn rd y n : Int) (h : Elems tLine w B A ls) (h2 : Elems tMean w B A2 ms) (hB : B ≤ w.heap.size) (hn : ls.length = k) (hl : k ≤ 60) (ht : fits total) (hn2 : ms.length = n2) (hl2 : n2 ≤ 9223372036854775807) (hpn : pn.size ≤ maxLen) (hfn : fits n) :
    Calls Try.prog 15 #[.int .i64 n, .agg #[.slice A k cap, .int .i64 total], .agg #[.bool ok, .bool tg, .bool si, .int .i64 lim, .int .i64 price, .int .i64 fn, .int .i64 fd, .int .i64 tn, .int .i64 td, .int .i64 cn, .int .i64 cd, .int .i64 sn, .int .i64 sd, .int .i64 rn, .int .i64 rd, .int .i64 y], .string pn, .slice A2 n2 cap2] w (Booked w (resaleL n ls total cn cd sn sd pn ms) (resaleE n ls total cn cd sn sd pn ms)) := by
  obtain ⟨tb, htb⟩ : ∃ v, totB ms = v := ⟨_, rfl⟩
  obtain ⟨r, hr⟩ : ∃ v, rightB ls total = v := ⟨_, rfl⟩
  obtain ⟨nb, hnb⟩ : ∃ v, nameB pn = v := ⟨_, rfl⟩
  obtain ⟨rc, hrc⟩ : ∃ v, ratioB cn cd = v := ⟨_, rfl⟩
  obtain ⟨rs, hrs⟩ : ∃ v, ratioB sn sd = v := ⟨_, rfl⟩
  have Hfor := Lib.hid (formed_in (cap2 := cap2) h2 hB hn2 hl2 tb htb)
  have Hrgt := Lib.hid (rright_in (cap := cap) h hB hn hl ht r hr)
  have Hnam := Lib.hid (rname_in hpn nb hnb)
  have Hrc := Lib.hid (rratio_in cn cd rc hrc)
  have Hrs := Lib.hid (rratio_in sn sd rs hrs)
  have HE := Lib.hid (And.intro h (And.intro h2 (And.intro htb (And.intro hr (And.intro hnb (And.intro hrc hrs))))))
  clear htb hr hnb hrc hrs h h2
  by_cases hgood : 0 ≤ n ∧ n ≤ 1000000000 ∧ r = true ∧ rc = true ∧ rs = true ∧ sn ≤ sd ∧ nb = true ∧ tb = true
  · obtain ⟨g1, g2, rfl, rfl, rfl, g3, rfl, rfl⟩ := hgood
    obtain ⟨tv, htv⟩ : ∃ v, backV 1 ls total cn cd = v := ⟨_, rfl⟩
    obtain ⟨te, hte⟩ : ∃ v, backE 1 ls total cn cd = v := ⟨_, rfl⟩
    have Htop := Lib.hid (rtop_in (cap := cap) HE.out.1 hB hn hl ht cn cd tv te htv hte)
    obtain ⟨hm12, hok⟩ := totB_out HE.out.2.2.1
    obtain ⟨sm, hsm⟩ : ∃ v, sumM ms = v := ⟨_, rfl⟩
    have Hsm := Lib.hid (rsum_in (cap2 := cap2) HE.out.2.1 hB hn2 (by omega) hok sm hsm)
    have hc := (resale_cond (n := n) (ls := ls) (total := total) (cn := cn) (cd := cd) (sn := sn) (sd := sd) (pn := pn) (ms := ms)).2 ⟨g1, g2, HE.out.2.2.2.1, HE.out.2.2.2.2.2.1, HE.out.2.2.2.2.2.2, g3, HE.out.2.2.2.2.1, HE.out.2.2.1⟩
    have hs0 : resaleE n ls total cn cd sn sd pn ms = if te ≠ 0 then te else if tv < n then 15 else if sm = n then 0 else 19 := by
      unfold resaleE
      rw [if_pos hc, hte, htv, hsm]
    obtain ⟨sv, hsv⟩ : ∃ v, shareV n sn sd = v := ⟨_, rfl⟩
    have Hsh := Lib.hid (rshare_in n sn sd sv 0 hsv hc.2.2.2.1)
    have hsl := share_le hc.1 hc.2.2.2.1 hc.2.2.2.2.1
    obtain ⟨s1, s2, s3, s4⟩ := share_zero hc.2.2.2.1
    rw [hsv] at hsl s3
    have HOk := Lib.hid (okM_in hok)
    have Hsv := Lib.hid hsv
    have HS0 := Lib.hid hs0
    clear htv hte hsm hc s1 s2 s4 hok hs0 hsv
    by_cases q1 : te = 0
    · subst q1
      by_cases q2 : tv < n
      · have hs1 : resaleE n ls total cn cd sn sd pn ms = 15 := by rw [HS0.out, if_neg (by simp), if_pos q2]
        have hL : resaleL n ls total cn cd sn sd pn ms = [] := by unfold resaleL; rw [if_neg (by rw [hs1]; decide)]
        rw [hL, hs1]
        clear hL hs1 HE HS0 Hsv HOk
        as_aux_lemma =>
        go_enter Try.func15, Try.ntmps15
        go_wp2_with (first
        | (go_at_call 33; refine Calls.mono (Hrgt.out _ ?bel) ?_; (case bel => (repeat (first | with_reducible exact Below.refl _ _ | with_reducible assumption | with_reducible refine Below.alloc0 ?_ _ | with_reducible refine Below.ext0 ?_ _ | with_reducible refine Below.drew ?_ | with_reducible refine below_drewN ?_ _ | (with_reducible refine Below.setCell (hp := ?hp) ?_ _; case hp => (first | (simp; done) | (simp; omega)))))); rintro e w' ⟨rfl, hb⟩; (first | (obtain ⟨u, rfl⟩ := ext_more hb; clear hb) | (obtain ⟨u, rfl⟩ := ext_more_alloc hb; clear hb) | (obtain ⟨u, rfl⟩ := ext_of hb; clear hb)))
        | (go_at_call 40; (first | with_reducible refine Calls.mono (Hrc.out _) ?_ | with_reducible refine Calls.mono (Hrs.out _) ?_); rintro e w' ⟨rfl, hb⟩; (first | (obtain ⟨u, rfl⟩ := ext_more hb; clear hb) | (obtain ⟨u, rfl⟩ := ext_more_alloc hb; clear hb) | (obtain ⟨u, rfl⟩ := ext_of hb; clear hb)))
        | (go_at_call 34; refine Calls.mono (Hnam.out _) ?_; rintro e w' ⟨rfl, rfl⟩)
        | (go_at_call 35; refine Calls.mono (Hfor.out _ ?bel) ?_; (case bel => (repeat (first | with_reducible exact Below.refl _ _ | with_reducible assumption | with_reducible refine Below.alloc0 ?_ _ | with_reducible refine Below.ext0 ?_ _ | with_reducible refine Below.drew ?_ | with_reducible refine below_drewN ?_ _ | (with_reducible refine Below.setCell (hp := ?hp) ?_ _; case hp => (first | (simp; done) | (simp; omega)))))); rintro e w' ⟨rfl, hb⟩; (first | (obtain ⟨u, rfl⟩ := ext_more hb; clear hb) | (obtain ⟨u, rfl⟩ := ext_more_alloc hb; clear hb) | (obtain ⟨u, rfl⟩ := ext_of hb; clear hb)))
        | (go_at_call 41; refine Calls.mono (Htop.out _ ?bel) ?_; (case bel => (repeat (first | with_reducible exact Below.refl _ _ | with_reducible assumption | with_reducible refine Below.alloc0 ?_ _ | with_reducible refine Below.ext0 ?_ _ | with_reducible refine Below.drew ?_ | with_reducible refine below_drewN ?_ _ | (with_reducible refine Below.setCell (hp := ?hp) ?_ _; case hp => (first | (simp; done) | (simp; omega)))))); rintro e w' ⟨rfl, hb⟩; (first | (obtain ⟨u, rfl⟩ := ext_more hb; clear hb) | (obtain ⟨u, rfl⟩ := ext_more_alloc hb; clear hb) | (obtain ⟨u, rfl⟩ := ext_of hb; clear hb)))
        | (go_at_call 36; refine Calls.mono (Hsm.out _ ?bel) ?_; (case bel => (repeat (first | with_reducible exact Below.refl _ _ | with_reducible assumption | with_reducible refine Below.alloc0 ?_ _ | with_reducible refine Below.ext0 ?_ _ | with_reducible refine Below.drew ?_ | with_reducible refine below_drewN ?_ _ | (with_reducible refine Below.setCell (hp := ?hp) ?_ _; case hp => (first | (simp; done) | (simp; omega)))))); rintro e w' ⟨rfl, rfl⟩)
        | (go_at_call 42; refine Calls.mono (Hsh.out _) ?_; rintro e w' ⟨rfl, hb⟩; (first | (obtain ⟨u, rfl⟩ := ext_more hb; clear hb) | (obtain ⟨u, rfl⟩ := ext_more_alloc hb; clear hb) | (obtain ⟨u, rfl⟩ := ext_of hb; clear hb))))
        exact bodyPost_ret (v := .tuple #[.agg #[.int .i64 0, .slice none 0 0], .int .i64 15]) (by simp [results, Try.results15, go_sem]) rfl (booked_none (by (repeat (first | with_reducible exact Below.refl _ _ | with_reducible assumption | with_reducible refine Below.alloc0 ?_ _ | with_reducible refine Below.ext0 ?_ _ | with_reducible refine Below.drew ?_ | with_reducible refine below_drewN ?_ _ | (with_reducible refine Below.setCell (hp := ?hp) ?_ _; case hp => (first | (simp; done) | (simp; omega)))))) rfl)
      · by_cases q3 : sm = n
        · subst q3
          have hs1 : resaleE sm ls total cn cd sn sd pn ms = 0 := by rw [HS0.out, if_neg (by simp), if_neg q2, if_pos rfl]
          have hL : resaleL sm ls total cn cd sn sd pn ms = payL ms (-1) ++ postL [((2, noName), sv), ((6, pn), sm - sv)] := by unfold resaleL; rw [if_pos hs1, Hsv.out]
          rw [hL, hs1]
          have q5 : (sm != sm) = false := by simp
          clear hL hs1 HS0 Hsv
          go_enter Try.func15, Try.ntmps15
          go_upto_region 11 with (first
        | (go_at_call 33; refine Calls.mono (Hrgt.out _ ?bel) ?_; (case bel => (repeat (first | with_reducible exact Below.refl _ _ | with_reducible assumption | with_reducible refine Below.alloc0 ?_ _ | with_reducible refine Below.ext0 ?_ _ | with_reducible refine Below.drew ?_ | with_reducible refine below_drewN ?_ _ | (with_reducible refine Below.setCell (hp := ?hp) ?_ _; case hp => (first | (simp; done) | (simp; omega)))))); rintro e w' ⟨rfl, hb⟩; (first | (obtain ⟨u, rfl⟩ := ext_more hb; clear hb) | (obtain ⟨u, rfl⟩ := ext_more_alloc hb; clear hb) | (obtain ⟨u, rfl⟩ := ext_of hb; clear hb)))
        | (go_at_call 40; (first | with_reducible refine Calls.mono (Hrc.out _) ?_ | with_reducible refine Calls.mono (Hrs.out _) ?_); rintro e w' ⟨rfl, hb⟩; (first | (obtain ⟨u, rfl⟩ := ext_more hb; clear hb) | (obtain ⟨u, rfl⟩ := ext_more_alloc hb; clear hb) | (obtain ⟨u, rfl⟩ := ext_of hb; clear hb)))
        | (go_at_call 34; refine Calls.mono (Hnam.out _) ?_; rintro e w' ⟨rfl, rfl⟩)
        | (go_at_call 35; refine Calls.mono (Hfor.out _ ?bel) ?_; (case bel => (repeat (first | with_reducible exact Below.refl _ _ | with_reducible assumption | with_reducible refine Below.alloc0 ?_ _ | with_reducible refine Below.ext0 ?_ _ | with_reducible refine Below.drew ?_ | with_reducible refine below_drewN ?_ _ | (with_reducible refine Below.setCell (hp := ?hp) ?_ _; case hp => (first | (simp; done) | (simp; omega)))))); rintro e w' ⟨rfl, hb⟩; (first | (obtain ⟨u, rfl⟩ := ext_more hb; clear hb) | (obtain ⟨u, rfl⟩ := ext_more_alloc hb; clear hb) | (obtain ⟨u, rfl⟩ := ext_of hb; clear hb)))
        | (go_at_call 41; refine Calls.mono (Htop.out _ ?bel) ?_; (case bel => (repeat (first | with_reducible exact Below.refl _ _ | with_reducible assumption | with_reducible refine Below.alloc0 ?_ _ | with_reducible refine Below.ext0 ?_ _ | with_reducible refine Below.drew ?_ | with_reducible refine below_drewN ?_ _ | (with_reducible refine Below.setCell (hp := ?hp) ?_ _; case hp => (first | (simp; done) | (simp; omega)))))); rintro e w' ⟨rfl, hb⟩; (first | (obtain ⟨u, rfl⟩ := ext_more hb; clear hb) | (obtain ⟨u, rfl⟩ := ext_more_alloc hb; clear hb) | (obtain ⟨u, rfl⟩ := ext_of hb; clear hb)))
        | (go_at_call 36; refine Calls.mono (Hsm.out _ ?bel) ?_; (case bel => (repeat (first | with_reducible exact Below.refl _ _ | with_reducible assumption | with_reducible refine Below.alloc0 ?_ _ | with_reducible refine Below.ext0 ?_ _ | with_reducible refine Below.drew ?_ | with_reducible refine below_drewN ?_ _ | (with_reducible refine Below.setCell (hp := ?hp) ?_ _; case hp => (first | (simp; done) | (simp; omega)))))); rintro e w' ⟨rfl, rfl⟩)
        | (go_at_call 42; refine Calls.mono (Hsh.out _) ?_; rintro e w' ⟨rfl, hb⟩; (first | (obtain ⟨u, rfl⟩ := ext_more hb; clear hb) | (obtain ⟨u, rfl⟩ := ext_more_alloc hb; clear hb) | (obtain ⟨u, rfl⟩ := ext_of hb; clear hb))))
          refine forget (fun X => Below w.heap.size w X ∧ Bk X (w.heap.size + 2) #[.int .i64 0, .slice none 0 0] 34) ⟨by (repeat (first | with_reducible exact Below.refl _ _ | with_reducible assumption | with_reducible refine Below.alloc0 ?_ _ | with_reducible refine Below.ext0 ?_ _ | with_reducible refine Below.drew ?_ | with_reducible refine below_drewN ?_ _ | (with_reducible refine Below.setCell (hp := ?hp) ?_ _; case hp => (first | (simp; done) | (simp; omega))))), ((bk_new_at _ _ _ _ (by simp)).ext _)⟩ ?_
          rintro X ⟨hw, b1⟩
          have HX := Lib.hid (And.intro hw b1)
          clear hw b1 Hfor Hrgt Hnam Hrc Hrs Htop Hsm Hsh
          have hmn : ms.length ≤ 100 := by omega
          go_wp2_with fail
          refine (paid_any A2 ms cap2 n2 (-1) X B (HE.out.2.1.keep (HX.out.1.mono hB) (Nat.le_refl _)) (by have := HX.out.1.size; omega) hn2 (by omega) HOk.out (.inr rfl)).mono ?_
          rintro e X2 ⟨v0, rfl, z1, z2, z3⟩
          obtain ⟨base, hbase⟩ : ∃ b, X.heap.size = b := ⟨_, rfl⟩
          have hX2 : Below X.heap.size X X2 := ⟨z2.os, z2.tape, z2.output, z2.size, fun k hk => z2.block k hk (by simp [Value.ownBlock])⟩
          rw [hbase] at z1
          have hsx := hX2.size
          have hlx := HX.out.2.lt
          have hlo := z1.lt
          have hwX2 : Below w.heap.size w X2 := HX.out.1.trans (hX2.mono HX.out.1.size)
          have HA := Lib.hid (And.intro hwX2 (And.intro (HX.out.2.below hX2) z1))
          clear z1 z2 z3 hX2 hwX2 HX
          obtain ⟨qA, hq1⟩ : ∃ q, payL ms (-1) = q := ⟨_, rfl⟩
          have hq1l : qA.length ≤ 12 := by
            rw [← hq1]
            have := payL_len ms (-1) ms.length
            rw [List.take_length] at this
            omega
          rw [hq1] at HA
          have Hq1 := Lib.hid hq1
          clear hq1
          obtain ⟨A0x, c0x, hv0x, _, _⟩ := HA.out.2.2.form
          subst hv0x
          go_upto_region 12 with (fail)
          refine forget (fun Y => Below w.heap.size w Y ∧ Bk Y (w.heap.size + 2) #[.int .i64 0, .slice none 0 0] 34 ∧ Bk Y X2.heap.size #[.int .i64 0, .slice A0x qA.length c0x] 34 ∧ OwnL tPst 55 Y base 0 (.slice A0x qA.length c0x) qA) ⟨HA.out.1.alloc HA.out.1.size _, HA.out.2.1.alloc _, Bk.new _ _ _, HA.out.2.2.below (below_self _ _) (by omega)⟩ ?_
          obtain ⟨bb, hbb⟩ : ∃ b, X2.heap.size = b := ⟨_, rfl⟩
          rw [hbb]
          have hne0 : ∀ g, (Value.slice A0x qA.length c0x).ownBlock = some g → g ≠ bb := fun g hg => by have := hlo g hg; omega
          have hwb : w.heap.size + 2 < base := by omega
          have hbb2 : base ≤ bb := by omega
          clear HA hlo hsx hlx
          rintro Y0 ⟨hw, b1, b2, hown⟩
          have d2 := b2.cell
          have m2 := b2.lt
          have x2 := b2.free
          have hsY := hw.size
          have hol := hown.lt
          have HY0 := Lib.hid (And.intro hw (And.intro b1 (And.intro b2 hown)))
          clear hw b1 b2 hown
          go_wp2_with fail
          refine (rpost_any base (.slice A0x qA.length c0x) qA 2 noName sv Y0 HY0.out.2.2.2 (by omega) (by omega) (by show _ ≤ (2:Int) ∧ (2:Int) ≤ _; omega) (by show 0 ≤ maxLen; omega) (by show _ ≤ sv ∧ sv ≤ _; omega)).mono ?_
          rintro e X4 ⟨v1, rfl, z1, z2, z3⟩
          have hs4 : Y0.heap.size ≤ X4.heap.size := z2.size
          have hw4 : Below w.heap.size w X4 := HY0.out.1.trans (z2.to_below (fun g hg => by have := (hol g hg).1; omega) (by omega))
          have b1 := HY0.out.2.1.only z2 (fun h => by have := (hol _ h).1; omega)
          have b2 := HY0.out.2.2.1.only z2 (fun h => hne0 _ h rfl)
          have hne1 : ∀ g, v1.ownBlock = some g → g ≠ bb := fun g hg => by
            rcases z3 g hg with h | h
            · exact hne0 g h
            · omega
          obtain ⟨q1, hq1⟩ : ∃ q, qA ++ postL [((2, noName), sv)] = q := ⟨_, rfl⟩
          rw [hq1] at z1
          have Hq1x := Lib.hid hq1
          obtain ⟨A1, c1, hv1, _, _⟩ := z1.form
          subst hv1
          have HZ := Lib.hid (And.intro hw4 (And.intro b1 (And.intro b2 z1)))
          have y2 := b2.cell
          have e2 := b2.free
          have l2 := b2.lt
          have hzl := z1.lt
          clear z1 z2 z3 hw4 b1 b2 hq1 d2 m2 x2 hol
          go_upto_region 13 with (fail)
          have ho9 : Only (fun g => g = bb) X4 ((X4.setCell ⟨bb, 0, none⟩ (.int .i64 0)).setCell ⟨bb, 1, none⟩ (.slice A1 q1.length c1)) := ((Only.refl (fun g => g = bb) X4).set_ (p := ⟨bb, 0, none⟩) (.inl rfl) _).set_ (p := ⟨bb, 1, none⟩) (.inl rfl) _
          refine forget (fun Y => Below w.heap.size w Y ∧ Bk Y (w.heap.size + 2) #[.int .i64 0, .slice none 0 0] 34 ∧ Bk Y bb #[.int .i64 0, .slice A1 q1.length c1] 34 ∧ OwnL tPst 55 Y base 0 (.slice A1 q1.length c1) q1) ⟨HZ.out.1.trans (ho9.to_below (fun g hg => by omega) HZ.out.1.size), HZ.out.2.1.only ho9 (by omega), (HZ.out.2.2.1.set_ 0 _).set_ 1 _, HZ.out.2.2.2.only ho9 (fun g hg => by omega) (by omega) hne1⟩ ?_
          clear ho9 HZ y2 e2 l2 hzl
          rintro Y1 ⟨hw, b1, b2, hown⟩
          have d2 := b2.cell
          have m2 := b2.lt
          have d1 := b1.cell
          have m1 := b1.lt
          have hsY1 := hw.size
          have hol := hown.lt
          have HY1 := Lib.hid (And.intro hw (And.intro b1 (And.intro b2 hown)))
          clear hw b1 b2 hown
          have hlq1 : q1.length ≤ 13 := by rw [← Hq1x.out, List.length_append]; have := post_one_len ((2, noName), sv); omega
          go_wp2_with fail
          refine (rpost_any base (.slice A1 q1.length c1) q1 6 pn (sm - sv) Y1 HY1.out.2.2.2 (by omega) (by omega) (by show _ ≤ (6:Int) ∧ (6:Int) ≤ _; omega) hpn (by show _ ≤ sm - sv ∧ sm - sv ≤ _; omega)).mono ?_
          rintro e X5 ⟨v2, rfl, z1, z2, z3⟩
          have hs5 : Y1.heap.size ≤ X5.heap.size := z2.size
          have hw5 : Below w.heap.size w X5 := HY1.out.1.trans (z2.to_below (fun g hg => by have := (hol g hg).1; omega) (by omega))
          have b1 := HY1.out.2.1.only z2 (fun h => by have := (hol _ h).1; omega)
          obtain ⟨q2, hq2⟩ : ∃ q, q1 ++ postL [((6, pn), sm - sv)] = q := ⟨_, rfl⟩
          rw [hq2] at z1
          obtain ⟨A9, c9, hv9, hc9, hm9⟩ := z1.form
          subst hv9
          have HCM := Lib.hid (And.intro hc9 hm9)
          have hzl := z1.lt
          have x1 := b1.cell
          have e1 := b1.free
          have l1 := b1.lt
          have HZ := Lib.hid (And.intro hw5 z1)
          have Hq2 := Lib.hid hq2
          clear z1 z2 z3 hw5 b1 hq2 hc9 hm9 d1 d2 m1 m2 hol
          go_wp2_with fail
          have ho9 : Only (fun g => g = w.heap.size + 2) X5 ((X5.setCell ⟨w.heap.size + 2, 0, none⟩ (.int .i64 0)).setCell ⟨w.heap.size + 2, 1, none⟩ (.slice A9 q2.length c9)) := ((Only.refl (fun g => g = w.heap.size + 2) X5).set_ (p := ⟨w.heap.size + 2, 0, none⟩) (.inl rfl) _).set_ (p := ⟨w.heap.size + 2, 1, none⟩) (.inl rfl) _
          have hE9 := (HZ.out.2.only ho9 (fun g hg => by omega) (by omega) (fun g hg h => by have := (hzl g hg).1; omega)).elems (B2 := ((X5.setCell ⟨w.heap.size + 2, 0, none⟩ (.int .i64 0)).setCell ⟨w.heap.size + 2, 1, none⟩ (.slice A9 q2.length c9)).heap.size) (by omega) (Nat.le_refl _)
          have hB9 := HZ.out.1.trans (ho9.to_below (fun g hg => by omega) (HZ.out.1.size))
          have hfin : payL ms (-1) ++ postL [((2, noName), sv), ((6, pn), sm - sv)] = q2 := by
            rw [Hq1.out, ← Hq2.out, ← Hq1x.out, List.append_assoc]
            congr 1
            unfold postL
            rw [← List.filter_append]
            rfl
          rw [hfin]
          exact bodyPost_ret (v := .tuple #[.agg #[.int .i64 0, .slice A9 q2.length c9], .int .i64 0]) (by simp [results, Try.results15, go_sem, x1, e1, l1]) rfl (booked_some rfl hE9 HCM.out.1 HCM.out.2 hB9)
        · have hs1 : resaleE n ls total cn cd sn sd pn ms = 19 := by rw [HS0.out, if_neg (by simp), if_neg q2, if_neg q3]
          have hL : resaleL n ls total cn cd sn sd pn ms = [] := by unfold resaleL; rw [if_neg (by rw [hs1]; decide)]
          rw [hL, hs1]
          have q5 : (sm != n) = true := by simpa using q3
          clear hL hs1 HE HS0 Hsv HOk
          as_aux_lemma =>
          go_enter Try.func15, Try.ntmps15
          go_wp2_with (first
        | (go_at_call 33; refine Calls.mono (Hrgt.out _ ?bel) ?_; (case bel => (repeat (first | with_reducible exact Below.refl _ _ | with_reducible assumption | with_reducible refine Below.alloc0 ?_ _ | with_reducible refine Below.ext0 ?_ _ | with_reducible refine Below.drew ?_ | with_reducible refine below_drewN ?_ _ | (with_reducible refine Below.setCell (hp := ?hp) ?_ _; case hp => (first | (simp; done) | (simp; omega)))))); rintro e w' ⟨rfl, hb⟩; (first | (obtain ⟨u, rfl⟩ := ext_more hb; clear hb) | (obtain ⟨u, rfl⟩ := ext_more_alloc hb; clear hb) | (obtain ⟨u, rfl⟩ := ext_of hb; clear hb)))
        | (go_at_call 40; (first | with_reducible refine Calls.mono (Hrc.out _) ?_ | with_reducible refine Calls.mono (Hrs.out _) ?_); rintro e w' ⟨rfl, hb⟩; (first | (obtain ⟨u, rfl⟩ := ext_more hb; clear hb) | (obtain ⟨u, rfl⟩ := ext_more_alloc hb; clear hb) | (obtain ⟨u, rfl⟩ := ext_of hb; clear hb)))
        | (go_at_call 34; refine Calls.mono (Hnam.out _) ?_; rintro e w' ⟨rfl, rfl⟩)
        | (go_at_call 35; refine Calls.mono (Hfor.out _ ?bel) ?_; (case bel => (repeat (first | with_reducible exact Below.refl _ _ | with_reducible assumption | with_reducible refine Below.alloc0 ?_ _ | with_reducible refine Below.ext0 ?_ _ | with_reducible refine Below.drew ?_ | with_reducible refine below_drewN ?_ _ | (with_reducible refine Below.setCell (hp := ?hp) ?_ _; case hp => (first | (simp; done) | (simp; omega)))))); rintro e w' ⟨rfl, hb⟩; (first | (obtain ⟨u, rfl⟩ := ext_more hb; clear hb) | (obtain ⟨u, rfl⟩ := ext_more_alloc hb; clear hb) | (obtain ⟨u, rfl⟩ := ext_of hb; clear hb)))
        | (go_at_call 41; refine Calls.mono (Htop.out _ ?bel) ?_; (case bel => (repeat (first | with_reducible exact Below.refl _ _ | with_reducible assumption | with_reducible refine Below.alloc0 ?_ _ | with_reducible refine Below.ext0 ?_ _ | with_reducible refine Below.drew ?_ | with_reducible refine below_drewN ?_ _ | (with_reducible refine Below.setCell (hp := ?hp) ?_ _; case hp => (first | (simp; done) | (simp; omega)))))); rintro e w' ⟨rfl, hb⟩; (first | (obtain ⟨u, rfl⟩ := ext_more hb; clear hb) | (obtain ⟨u, rfl⟩ := ext_more_alloc hb; clear hb) | (obtain ⟨u, rfl⟩ := ext_of hb; clear hb)))
        | (go_at_call 36; refine Calls.mono (Hsm.out _ ?bel) ?_; (case bel => (repeat (first | with_reducible exact Below.refl _ _ | with_reducible assumption | with_reducible refine Below.alloc0 ?_ _ | with_reducible refine Below.ext0 ?_ _ | with_reducible refine Below.drew ?_ | with_reducible refine below_drewN ?_ _ | (with_reducible refine Below.setCell (hp := ?hp) ?_ _; case hp => (first | (simp; done) | (simp; omega)))))); rintro e w' ⟨rfl, rfl⟩)
        | (go_at_call 42; refine Calls.mono (Hsh.out _) ?_; rintro e w' ⟨rfl, hb⟩; (first | (obtain ⟨u, rfl⟩ := ext_more hb; clear hb) | (obtain ⟨u, rfl⟩ := ext_more_alloc hb; clear hb) | (obtain ⟨u, rfl⟩ := ext_of hb; clear hb))))
          exact bodyPost_ret (v := .tuple #[.agg #[.int .i64 0, .slice none 0 0], .int .i64 19]) (by simp [results, Try.results15, go_sem]) rfl (booked_none (by (repeat (first | with_reducible exact Below.refl _ _ | with_reducible assumption | with_reducible refine Below.alloc0 ?_ _ | with_reducible refine Below.ext0 ?_ _ | with_reducible refine Below.drew ?_ | with_reducible refine below_drewN ?_ _ | (with_reducible refine Below.setCell (hp := ?hp) ?_ _; case hp => (first | (simp; done) | (simp; omega)))))) rfl)
    · have hs1 : resaleE n ls total cn cd sn sd pn ms = te := by rw [HS0.out, if_pos q1]
      have hL : resaleL n ls total cn cd sn sd pn ms = [] := by unfold resaleL; rw [if_neg (by rw [hs1]; exact q1)]
      rw [hL, hs1]
      have q5 : (te != 0) = true := by simpa using q1
      clear hL hs1 HE HS0 Hsv HOk
      as_aux_lemma =>
      go_enter Try.func15, Try.ntmps15
      go_wp2_with (first
        | (go_at_call 33; refine Calls.mono (Hrgt.out _ ?bel) ?_; (case bel => (repeat (first | with_reducible exact Below.refl _ _ | with_reducible assumption | with_reducible refine Below.alloc0 ?_ _ | with_reducible refine Below.ext0 ?_ _ | with_reducible refine Below.drew ?_ | with_reducible refine below_drewN ?_ _ | (with_reducible refine Below.setCell (hp := ?hp) ?_ _; case hp => (first | (simp; done) | (simp; omega)))))); rintro e w' ⟨rfl, hb⟩; (first | (obtain ⟨u, rfl⟩ := ext_more hb; clear hb) | (obtain ⟨u, rfl⟩ := ext_more_alloc hb; clear hb) | (obtain ⟨u, rfl⟩ := ext_of hb; clear hb)))
        | (go_at_call 40; (first | with_reducible refine Calls.mono (Hrc.out _) ?_ | with_reducible refine Calls.mono (Hrs.out _) ?_); rintro e w' ⟨rfl, hb⟩; (first | (obtain ⟨u, rfl⟩ := ext_more hb; clear hb) | (obtain ⟨u, rfl⟩ := ext_more_alloc hb; clear hb) | (obtain ⟨u, rfl⟩ := ext_of hb; clear hb)))
        | (go_at_call 34; refine Calls.mono (Hnam.out _) ?_; rintro e w' ⟨rfl, rfl⟩)
        | (go_at_call 35; refine Calls.mono (Hfor.out _ ?bel) ?_; (case bel => (repeat (first | with_reducible exact Below.refl _ _ | with_reducible assumption | with_reducible refine Below.alloc0 ?_ _ | with_reducible refine Below.ext0 ?_ _ | with_reducible refine Below.drew ?_ | with_reducible refine below_drewN ?_ _ | (with_reducible refine Below.setCell (hp := ?hp) ?_ _; case hp => (first | (simp; done) | (simp; omega)))))); rintro e w' ⟨rfl, hb⟩; (first | (obtain ⟨u, rfl⟩ := ext_more hb; clear hb) | (obtain ⟨u, rfl⟩ := ext_more_alloc hb; clear hb) | (obtain ⟨u, rfl⟩ := ext_of hb; clear hb)))
        | (go_at_call 41; refine Calls.mono (Htop.out _ ?bel) ?_; (case bel => (repeat (first | with_reducible exact Below.refl _ _ | with_reducible assumption | with_reducible refine Below.alloc0 ?_ _ | with_reducible refine Below.ext0 ?_ _ | with_reducible refine Below.drew ?_ | with_reducible refine below_drewN ?_ _ | (with_reducible refine Below.setCell (hp := ?hp) ?_ _; case hp => (first | (simp; done) | (simp; omega)))))); rintro e w' ⟨rfl, hb⟩; (first | (obtain ⟨u, rfl⟩ := ext_more hb; clear hb) | (obtain ⟨u, rfl⟩ := ext_more_alloc hb; clear hb) | (obtain ⟨u, rfl⟩ := ext_of hb; clear hb)))
        | (go_at_call 36; refine Calls.mono (Hsm.out _ ?bel) ?_; (case bel => (repeat (first | with_reducible exact Below.refl _ _ | with_reducible assumption | with_reducible refine Below.alloc0 ?_ _ | with_reducible refine Below.ext0 ?_ _ | with_reducible refine Below.drew ?_ | with_reducible refine below_drewN ?_ _ | (with_reducible refine Below.setCell (hp := ?hp) ?_ _; case hp => (first | (simp; done) | (simp; omega)))))); rintro e w' ⟨rfl, rfl⟩)
        | (go_at_call 42; refine Calls.mono (Hsh.out _) ?_; rintro e w' ⟨rfl, hb⟩; (first | (obtain ⟨u, rfl⟩ := ext_more hb; clear hb) | (obtain ⟨u, rfl⟩ := ext_more_alloc hb; clear hb) | (obtain ⟨u, rfl⟩ := ext_of hb; clear hb))))
      exact bodyPost_ret (v := .tuple #[.agg #[.int .i64 0, .slice none 0 0], .int .i64 te]) (by simp [results, Try.results15, go_sem]) rfl (booked_none (by (repeat (first | with_reducible exact Below.refl _ _ | with_reducible assumption | with_reducible refine Below.alloc0 ?_ _ | with_reducible refine Below.ext0 ?_ _ | with_reducible refine Below.drew ?_ | with_reducible refine below_drewN ?_ _ | (with_reducible refine Below.setCell (hp := ?hp) ?_ _; case hp => (first | (simp; done) | (simp; omega)))))) rfl)
  · have hs1 : resaleE n ls total cn cd sn sd pn ms = 1 := by
      unfold resaleE
      rw [if_neg]
      intro h9
      rw [resale_cond, HE.out.2.2.1, HE.out.2.2.2.1, HE.out.2.2.2.2.1, HE.out.2.2.2.2.2.1, HE.out.2.2.2.2.2.2] at h9
      exact hgood h9
    have hL : resaleL n ls total cn cd sn sd pn ms = [] := by unfold resaleL; rw [if_neg (by rw [hs1]; decide)]
    rw [hL, hs1]
    clear hL hs1 HE
    have hno : n < 0 ∨ (0 ≤ n ∧ 1000000000 < n) ∨ (0 ≤ n ∧ n ≤ 1000000000 ∧ r = false) ∨ (0 ≤ n ∧ n ≤ 1000000000 ∧ r = true ∧ rc = false) ∨ (0 ≤ n ∧ n ≤ 1000000000 ∧ r = true ∧ rc = true ∧ rs = false) ∨ (0 ≤ n ∧ n ≤ 1000000000 ∧ r = true ∧ rc = true ∧ rs = true ∧ sd < sn) ∨ (0 ≤ n ∧ n ≤ 1000000000 ∧ r = true ∧ rc = true ∧ rs = true ∧ sn ≤ sd ∧ nb = false) ∨ (0 ≤ n ∧ n ≤ 1000000000 ∧ r = true ∧ rc = true ∧ rs = true ∧ sn ≤ sd ∧ nb = true ∧ tb = false) := by
      by_cases h1 : n < 0
      · exact .inl h1
      by_cases h2 : 1000000000 < n
      · exact .inr (.inl ⟨by omega, h2⟩)
      by_cases h3 : sn ≤ sd
      · cases r <;> cases rc <;> cases rs <;> cases nb <;> cases tb <;> first | (exfalso; exact hgood ⟨by omega, by omega, rfl, rfl, rfl, h3, rfl, rfl⟩) | (simp; omega)
      · cases r <;> cases rc <;> cases rs <;> simp <;> omega
    clear hgood
    rcases hno with h1 | ⟨h1, h2⟩ | ⟨h1, h2, rfl⟩ | ⟨h1, h2, rfl, rfl⟩ | ⟨h1, h2, rfl, rfl, rfl⟩ | ⟨h1, h2, rfl, rfl, rfl, h3⟩ | ⟨h1, h2, rfl, rfl, rfl, h3, rfl⟩ | ⟨h1, h2, rfl, rfl, rfl, h3, rfl, rfl⟩
    all_goals as_aux_lemma =>
      go_enter Try.func15, Try.ntmps15
      go_wp2_with (first
        | (go_at_call 33; refine Calls.mono (Hrgt.out _ ?bel) ?_; (case bel => (repeat (first | with_reducible exact Below.refl _ _ | with_reducible assumption | with_reducible refine Below.alloc0 ?_ _ | with_reducible refine Below.ext0 ?_ _ | with_reducible refine Below.drew ?_ | with_reducible refine below_drewN ?_ _ | (with_reducible refine Below.setCell (hp := ?hp) ?_ _; case hp => (first | (simp; done) | (simp; omega)))))); rintro e w' ⟨rfl, hb⟩; (first | (obtain ⟨u, rfl⟩ := ext_more hb; clear hb) | (obtain ⟨u, rfl⟩ := ext_more_alloc hb; clear hb) | (obtain ⟨u, rfl⟩ := ext_of hb; clear hb)))
        | (go_at_call 40; (first | with_reducible refine Calls.mono (Hrc.out _) ?_ | with_reducible refine Calls.mono (Hrs.out _) ?_); rintro e w' ⟨rfl, hb⟩; (first | (obtain ⟨u, rfl⟩ := ext_more hb; clear hb) | (obtain ⟨u, rfl⟩ := ext_more_alloc hb; clear hb) | (obtain ⟨u, rfl⟩ := ext_of hb; clear hb)))
        | (go_at_call 34; refine Calls.mono (Hnam.out _) ?_; rintro e w' ⟨rfl, rfl⟩)
        | (go_at_call 35; refine Calls.mono (Hfor.out _ ?bel) ?_; (case bel => (repeat (first | with_reducible exact Below.refl _ _ | with_reducible assumption | with_reducible refine Below.alloc0 ?_ _ | with_reducible refine Below.ext0 ?_ _ | with_reducible refine Below.drew ?_ | with_reducible refine below_drewN ?_ _ | (with_reducible refine Below.setCell (hp := ?hp) ?_ _; case hp => (first | (simp; done) | (simp; omega)))))); rintro e w' ⟨rfl, hb⟩; (first | (obtain ⟨u, rfl⟩ := ext_more hb; clear hb) | (obtain ⟨u, rfl⟩ := ext_more_alloc hb; clear hb) | (obtain ⟨u, rfl⟩ := ext_of hb; clear hb))))
      exact bodyPost_ret (v := .tuple #[.agg #[.int .i64 0, .slice none 0 0], .int .i64 1]) (by simp [results, Try.results15, go_sem]) rfl (booked_none (by (repeat (first | with_reducible exact Below.refl _ _ | with_reducible assumption | with_reducible refine Below.alloc0 ?_ _ | with_reducible refine Below.ext0 ?_ _ | with_reducible refine Below.drew ?_ | with_reducible refine below_drewN ?_ _ | (with_reducible refine Below.setCell (hp := ?hp) ?_ _; case hp => (first | (simp; done) | (simp; omega)))))) rfl)
end Go.Proofs.Ytggmihnhdojepaa
