/- Layer 13 (decide): numbers, and Valid. -/
import Derived.Test.YtmklcfmdcfbpeaaDecB
namespace Go.Proofs.Ytmklcfmdcfbpeaa
open Go.RowKit
set_option linter.unusedVariables false
set_option linter.unusedSimpArgs false
attribute [local go_sem] ext_cell ext_frozen lt_ext ext_drew

def litS (x : ByteArray) : Lit := .string x.data.toList
theorem litS_inj : ∀ x y, litS x = litS y → x = y := fun x y h => by
  obtain ⟨⟨a⟩⟩ := x
  obtain ⟨⟨b⟩⟩ := y
  simp only [litS, Lit.string.injEq] at h
  rw [h]
theorem keyedS : Go.Maps.Keyed Try.prog 9 := Go.Maps.string_keyed Try.underlying9
theorem keyS {x : ByteArray} (h : x.size ≤ maxLen) : keyOf Try.prog 9 (.string x) = some (litS x) := by
  exact WideMaps.keyOf_string_mk Try.underlying9 h
theorem zeroB (w : World) : (zeroValue 4).run Try.prog w = .ok (.bool false) w := by kernel_rfl

set_option maxHeartbeats 2000000 in
theorem numbers_any (kd : Int) (nm : ByteArray) (A : Option Addr) (n cap : Nat) (num rn rd sn sd : Int) (w : World) :
    Calls Try.prog 24 #[.agg #[.int .i64 kd, .string nm, .slice A n cap, .int .i64 num, .int .i64 rn, .int .i64 rd, .int .i64 sn, .int .i64 sd]] w fun e w' => e = .returned (.bool (numsB kd num rn rd sn sd)) ∧ Below w.heap.size w w' := by
  obtain ⟨m1, hm1⟩ : ∃ v, mostB rn rd 1 = v := ⟨_, rfl⟩
  obtain ⟨m2, hm2⟩ : ∃ v, mostB sn sd 1 = v := ⟨_, rfl⟩
  obtain ⟨m3, hm3⟩ : ∃ v, mostB rn rd 10 = v := ⟨_, rfl⟩
  obtain ⟨R, hR⟩ : ∃ v, numsB kd num rn rd sn sd = v := ⟨_, rfl⟩
  rw [hR]
  have hR2 := hR.symm
  unfold numsB at hR2
  rw [hm1, hm2, hm3] at hR2
  have H1 := Lib.hid hm1
  have H2 := Lib.hid hm2
  have H3 := Lib.hid hm3
  have HR := Lib.hid hR2
  clear hm1 hm2 hm3 hR hR2
  by_cases k1 : kd = 1
  · subst k1
    have hR9 : R = (decide (0 ≤ num) && decide (num ≤ 100)) := HR.out
    have HR9 := Lib.hid hR9
    clear HR hR9
    go_enter Try.func24, Try.ntmps24
    go_wp2_with fail
    all_goals go_ret
    all_goals exact ⟨ret_bool (by rw [HR9.out, Bool.eq_iff_iff]; simp; omega), below_self _ _⟩
  by_cases k3 : kd = 3
  · subst k3
    have hR9 : R = (decide (0 ≤ num) && decide (num ≤ 10000000) && m1 && m2) := HR.out
    have HR9 := Lib.hid hR9
    clear HR hR9
    by_cases hn : 0 ≤ num ∧ num ≤ 10000000
    · obtain ⟨n1, n2⟩ := hn
      cases m1
      · go_enter Try.func24, Try.ntmps24
        go_wp2_with (go_at_call 41; refine (most_is _ _ _ 1 _ (by omega) H1).mono ?_; rintro e w' ⟨rfl, hb⟩; (first | (obtain ⟨u, rfl⟩ := ext_more hb; clear hb) | (obtain ⟨u, rfl⟩ := ext_more_alloc hb; clear hb) | (obtain ⟨u, rfl⟩ := ext_of hb; clear hb)))
        go_ret
        exact ⟨ret_bool (by rw [HR9.out]; simp), by (repeat (first | with_reducible exact Below.refl _ _ | with_reducible assumption | with_reducible refine Below.alloc0 ?_ _ | with_reducible refine Below.ext0 ?_ _ | with_reducible refine Below.drew ?_ | with_reducible refine below_drewN ?_ _ | (with_reducible refine Below.setCell (hp := ?hp) ?_ _; case hp => (first | (simp; done) | (simp; omega)))))⟩
      · go_enter Try.func24, Try.ntmps24
        go_wp2_with fail
        refine (most_is _ _ _ 1 _ (by omega) H1).mono ?_
        rintro e w' ⟨rfl, hb⟩
        (first | (obtain ⟨u, rfl⟩ := ext_more hb; clear hb) | (obtain ⟨u, rfl⟩ := ext_more_alloc hb; clear hb) | (obtain ⟨u, rfl⟩ := ext_of hb; clear hb))
        go_wp2_with fail
        refine (most_is _ _ _ 1 _ (by omega) H2).mono ?_
        rintro e w' ⟨rfl, hb⟩
        (first | (obtain ⟨u, rfl⟩ := ext_more hb; clear hb) | (obtain ⟨u, rfl⟩ := ext_more_alloc hb; clear hb) | (obtain ⟨u, rfl⟩ := ext_of hb; clear hb))
        go_wp2_with fail
        go_ret
        exact ⟨ret_bool (by rw [HR9.out]; simp; try omega), by (repeat (first | with_reducible exact Below.refl _ _ | with_reducible assumption | with_reducible refine Below.alloc0 ?_ _ | with_reducible refine Below.ext0 ?_ _ | with_reducible refine Below.drew ?_ | with_reducible refine below_drewN ?_ _ | (with_reducible refine Below.setCell (hp := ?hp) ?_ _; case hp => (first | (simp; done) | (simp; omega)))))⟩
    · have hno : num < 0 ∨ (0 ≤ num ∧ 10000000 < num) := by omega
      have hf : R = false := by
        rw [HR9.out]
        rcases hno with h | ⟨_, h⟩
        · rw [decide_eq_false (show ¬ 0 ≤ num by omega)]; simp
        · rw [decide_eq_false (show ¬ num ≤ 10000000 by omega)]; simp
      subst hf
      clear hn HR9
      rcases hno with hno | ⟨hno, hno2⟩
      all_goals
        go_enter Try.func24, Try.ntmps24
        go_wp2_with fail
        go_ret
        exact ⟨rfl, below_self _ _⟩
  by_cases k4 : kd = 4
  · subst k4
    have hR9 : R = (m3 && m2) := HR.out
    subst hR9
    cases m3
    · go_enter Try.func24, Try.ntmps24
      go_wp2_with (go_at_call 41; refine (most_is _ _ _ 10 _ (by omega) H3).mono ?_; rintro e w' ⟨rfl, hb⟩; (first | (obtain ⟨u, rfl⟩ := ext_more hb; clear hb) | (obtain ⟨u, rfl⟩ := ext_more_alloc hb; clear hb) | (obtain ⟨u, rfl⟩ := ext_of hb; clear hb)))
      go_ret
      exact ⟨rfl, by (repeat (first | with_reducible exact Below.refl _ _ | with_reducible assumption | with_reducible refine Below.alloc0 ?_ _ | with_reducible refine Below.ext0 ?_ _ | with_reducible refine Below.drew ?_ | with_reducible refine below_drewN ?_ _ | (with_reducible refine Below.setCell (hp := ?hp) ?_ _; case hp => (first | (simp; done) | (simp; omega)))))⟩
    · go_enter Try.func24, Try.ntmps24
      go_wp2_with fail
      refine (most_is _ _ _ 10 _ (by omega) H3).mono ?_
      rintro e w' ⟨rfl, hb⟩
      (first | (obtain ⟨u, rfl⟩ := ext_more hb; clear hb) | (obtain ⟨u, rfl⟩ := ext_more_alloc hb; clear hb) | (obtain ⟨u, rfl⟩ := ext_of hb; clear hb))
      go_wp2_with fail
      refine (most_is _ _ _ 1 _ (by omega) H2).mono ?_
      rintro e w' ⟨rfl, hb⟩
      (first | (obtain ⟨u, rfl⟩ := ext_more hb; clear hb) | (obtain ⟨u, rfl⟩ := ext_more_alloc hb; clear hb) | (obtain ⟨u, rfl⟩ := ext_of hb; clear hb))
      go_wp2_with fail
      go_ret
      exact ⟨ret_bool (by simp), by (repeat (first | with_reducible exact Below.refl _ _ | with_reducible assumption | with_reducible refine Below.alloc0 ?_ _ | with_reducible refine Below.ext0 ?_ _ | with_reducible refine Below.drew ?_ | with_reducible refine below_drewN ?_ _ | (with_reducible refine Below.setCell (hp := ?hp) ?_ _; case hp => (first | (simp; done) | (simp; omega)))))⟩
  by_cases k5 : kd = 5
  · subst k5
    obtain rfl : R = m1 := HR.out
    go_enter Try.func24, Try.ntmps24
    go_wp2_with (go_at_call 41; refine (most_is _ _ _ 1 _ (by omega) H1).mono ?_; rintro e w' ⟨rfl, hb⟩; (first | (obtain ⟨u, rfl⟩ := ext_more hb; clear hb) | (obtain ⟨u, rfl⟩ := ext_more_alloc hb; clear hb) | (obtain ⟨u, rfl⟩ := ext_of hb; clear hb)))
    go_ret
    exact ⟨rfl, by (repeat (first | with_reducible exact Below.refl _ _ | with_reducible assumption | with_reducible refine Below.alloc0 ?_ _ | with_reducible refine Below.ext0 ?_ _ | with_reducible refine Below.drew ?_ | with_reducible refine below_drewN ?_ _ | (with_reducible refine Below.setCell (hp := ?hp) ?_ _; case hp => (first | (simp; done) | (simp; omega)))))⟩
  have hR9 : R = (decide (kd = 2) || decide (kd = 6) || decide (kd = 7)) := by rw [HR.out, if_neg k1, if_neg k3, if_neg k4, if_neg k5]
  subst hR9
  clear HR
  by_cases k2 : kd = 2
  · subst k2
    go_enter Try.func24, Try.ntmps24
    go_wp2_with fail
    go_ret
    exact ⟨rfl, below_self _ _⟩
  by_cases k6 : kd = 6
  · subst k6
    go_enter Try.func24, Try.ntmps24
    go_wp2_with fail
    go_ret
    exact ⟨rfl, below_self _ _⟩
  by_cases k7 : kd = 7
  · subst k7
    go_enter Try.func24, Try.ntmps24
    go_wp2_with fail
    go_ret
    exact ⟨rfl, below_self _ _⟩
  go_enter Try.func24, Try.ntmps24
  go_wp2_with fail
  go_ret
  exact ⟨ret_bool (by simp [k2, k6, k7]), below_self _ _⟩

/-! ### Valid -/
def hasN (rs : List Rl) (c : ByteArray) : Bool := rs.any fun x => decide (x.2.1 = c)
def badR (r : Rl) : Bool := !numsB r.1 r.2.2.2.1 r.2.2.2.2.1.1 r.2.2.2.2.1.2 r.2.2.2.2.2.1 r.2.2.2.2.2.2 || decide (200 < r.2.2.1.length) || r.2.2.1.any fun z => !okZ z
def badAt (rs : List Rl) (k : Nat) (r : Rl) : Bool := hasN (rs.take k) r.2.1 || badR r
def goodTo (rs : List Rl) (k : Nat) : Prop := ∀ j, j < k → ∀ r, rs[j]? = some r → badAt rs j r = false
def goodB (rs : List Rl) : Bool := (List.range rs.length).all fun k => match rs[k]? with | none => true | some r => !badAt rs k r
def validP (rs : List Rl) : Bool := decide (rs.length ≤ 200) && goodB rs
def seenN (rs : List Rl) : ByteArray → Option Bool := fun c => if hasN rs c then some true else none
theorem goodB_bad {rs : List Rl} {k : Nat} {r : Rl} (h : rs[k]? = some r) (hb : badAt rs k r = true) : goodB rs = false := by
  unfold goodB
  rw [List.all_eq_false]
  refine ⟨k, List.mem_range.2 (List.getElem?_eq_some_iff.1 h).1, ?_⟩
  rw [h]; simp [hb]
theorem goodB_all {rs : List Rl} (h : goodTo rs rs.length) : goodB rs = true := by
  unfold goodB
  rw [List.all_eq_true]
  intro k hk
  have hk' := List.mem_range.1 hk
  rw [List.getElem?_eq_getElem hk']
  simp [h k hk' _ (List.getElem?_eq_getElem hk')]
theorem goodTo_step {rs : List Rl} {k : Nat} {r : Rl} (h : goodTo rs k) (hr : rs[k]? = some r) (hb : badAt rs k r = false) : goodTo rs (k + 1) := fun j hj r' hr' => by
  by_cases e : j = k
  · subst e; rw [hr] at hr'; simp only [Option.some.injEq] at hr'; rw [← hr']; exact hb
  · exact h j (by omega) r' hr'
theorem hasN_take {rs : List Rl} {k : Nat} {r : Rl} (h : rs[k]? = some r) (c : ByteArray) : hasN (rs.take (k + 1)) c = (hasN (rs.take k) c || decide (r.2.1 = c)) := by
  unfold hasN
  rw [List.take_add_one, h, List.any_append]
  simp
theorem seenN_put {rs : List Rl} {k : Nat} {r : Rl} (h : rs[k]? = some r) : putF (seenN (rs.take k)) r.2.1 true = seenN (rs.take (k + 1)) := by
  funext c
  unfold putF seenN
  rw [hasN_take h]
  by_cases e : c = r.2.1
  · subst e; simp
  · rw [if_neg e, decide_eq_false (fun h => e h.symm), Bool.or_false]
theorem seenN_get (rs : List Rl) (c : ByteArray) : (seenN rs c).getD false = hasN rs c := by
  unfold seenN; cases hasN rs c <;> rfl

-- FINDBAD
set_option maxHeartbeats 1000000 in
theorem index_badzones (A : Option Addr) (zs : List Zn) (cap : Nat)  (w : World) (B : Nat) (h : Elems tZn w B A zs) (hB : B ≤ w.heap.size) (hl : zs.length ≤ 9223372036854775807) :
    Calls Try.prog 40 #[.slice A zs.length cap, .func (.func 25) #[] #[]] w (Found w (zs.any (fun z => !okZ z))) := by
  obtain ⟨r, hr⟩ : ∃ r, zs.any (fun z => !okZ z) = r := ⟨_, rfl⟩
  rw [hr]
  have Hr := Lib.hid hr
  have HH := Lib.hid h
  clear hr h
  go_enter Try.func40, Try.ntmps40
  go_wp2_with fail
  go_loopw [8] (fun i wr => ∃ (k : Nat), k ≤ zs.length ∧ i = .int .i64 k ∧ (zs.take k).any (fun z => !okZ z) = false ∧ Below w.heap.size w wr) (fun i _ => zs.length - (intOf i).toNat)
  case atStart => exact ⟨0, by omega, rfl, rfl, Below.refl _ _⟩
  case round =>
    obtain ⟨k, hk, rfl, hany, hlow⟩ := hrel
    have HX := Lib.hid (And.intro hany hlow)
    have hbr : w.heap.size ≤ wr.heap.size := hlow.size
    have hE := HH.out.keep (hlow.mono hB) (Nat.le_refl _)
    clear hany hlow
    by_cases hlt : k < zs.length
    · obtain ⟨b, off, z, rfl, hb, Hk, hz, Hz⟩ := pick_zone hE hlt
      have bw : b < wr.heap.size := by omega
      have Hs := Lib.hid (any_take (fun z => !okZ z) Hk.out)
      have HZ := Lib.hid hz
      clear hE hz
      go_wp2_with (refine list_load_at (o := ⟨some 15, _, _, _, _, _⟩) rfl _ _ rfl b (off + k * 20) rfl (znV z) _ Hz.out Try.underlying44 rfl (by rw [znV_size HZ.out]; kernel_rfl) ?_)
      refine (badz_any z _ HZ.out).mono ?_
      rintro e w2 ⟨rfl, hb2⟩
      have HY := Lib.hid (Below.trans0 HX.out.2 hb2)
      clear hb2
      cases hp : (!okZ z) with
      | true =>
        have hr2 : r = true := by rw [← Hr.out, List.any_eq_true]; exact ⟨z, List.mem_of_getElem? Hk.out, hp⟩
        subst hr2
        have Hp := Lib.hid hp
        clear hp
        go_wp2_with fail
        go_ret
        exact ⟨k, rfl, HY.out, (fun h => by cases h), fun _ => by omega⟩
      | false =>
        have Hp := Lib.hid hp
        clear hp
        go_wp2_with fail
        go_roundw
        case rel => exact ⟨k + 1, by omega, by go_num, by rw [Hs.out, HX.out.1]; show (false || (!okZ z)) = false; rw [Hp.out]; rfl, HY.out⟩
        case measure => simp [intOf]; omega
    · obtain rfl : k = zs.length := by omega
      have hr2 : r = false := by rw [← Hr.out]; have := HX.out.1; rwa [List.take_length] at this
      subst hr2
      go_wp2_with fail
      go_ret
      exact ⟨-1, rfl, HX.out.2, fun _ => rfl, fun h => by cases h⟩

theorem contains_badzones (A : Option Addr) (zs : List Zn) (cap : Nat)  (w : World) (B : Nat) (h : Elems tZn w B A zs) (hB : B ≤ w.heap.size) (hl : zs.length ≤ 9223372036854775807) :
    Calls Try.prog 21 #[.slice A zs.length cap, .func (.func 25) #[] #[]] w fun e w' => e = .returned (.bool (zs.any (fun z => !okZ z))) ∧ Below w.heap.size w w' := by
  have H := Lib.hid (index_badzones A zs cap  w B h hB hl )
  obtain ⟨r, hr⟩ : ∃ r, zs.any (fun z => !okZ z) = r := ⟨_, rfl⟩
  rw [hr] at H ⊢
  clear h hr
  go_enter Try.func21, Try.ntmps21
  go_wp2_with fail
  refine H.out.mono ?_
  rintro e w' ⟨i, rfl, hb, h1, h2⟩
  have HX := Lib.hid hb
  cases r with
  | true =>
    have hi := h2 rfl
    clear h1 h2 hb
    go_wp2_with fail
    go_ret
    exact ⟨rfl, HX.out⟩
  | false =>
    obtain rfl := h1 rfl
    clear h1 h2 hb
    go_wp2_with fail
    go_ret
    exact ⟨rfl, HX.out⟩
-- END FINDBAD

def RuleSeen (w : World) (mb m : Nat) (f : ByteArray → Option Bool) (r : Rl) (e : Ending) (w' : World) : Prop :=
  e = .returned (.bool ((f r.2.1).getD false || badR r)) ∧ ∃ m' : Nat, MapB litS Try.prog 9 4 w' mb m' (putF f r.2.1 true) ∧ m' ≤ m + 1 ∧ Only (fun g => g = mb) w w'
theorem MapB.ne {κ : Type} {lit : κ → Lit} {P : Program} {k e t : TypeId} {w : World} {mb m qb : Nat} {f : κ → Option Bool} {C : Array Value} (h : MapB lit P k e w mb m f) (hk : Bk w qb C t) : qb ≠ mb := by
  intro e
  subst e
  obtain ⟨D, ⟨es, clock, hb, _⟩, _⟩ := h
  have := hk.symm.trans hb
  simp at this

set_option maxHeartbeats 2000000 in
theorem rule_bad (kd : Int) (nm : ByteArray) (A : Option Addr) (zs : List Zn) (cap : Nat) (num rn rd sn sd : Int) (w : World) (B sb mb m : Nat) (f : ByteArray → Option Bool) (hs : Bk w sb #[.map (some mb)] 52) (hm : MapB litS Try.prog 9 4 w mb m f)
    (hm' : m ≤ 1000) (hn : nm.size ≤ maxLen) (h : Elems tZn w B A zs) (hB : B ≤ w.heap.size) (hBm : B ≤ mb) (hl : zs.length ≤ 9223372036854775807) :
    Calls Try.prog 23 #[.agg #[.int .i64 kd, .string nm, .slice A zs.length cap, .int .i64 num, .int .i64 rn, .int .i64 rd, .int .i64 sn, .int .i64 sd], .pointer (some ⟨sb, 0, none⟩)] w (RuleSeen w mb m f (kd, nm, zs, num, (rn, rd), (sn, sd))) := by
  have hne2 := hm.ne hs
  have cs : w.cell? ⟨sb, 0, none⟩ = some (.map (some mb)) := hs.cell 0
  have ls := hs.lt
  have lm := hm.lt
  have HM := Lib.hid (hm.below (below_self w (.cells #[.int .i64 kd, .string nm, .slice A zs.length cap, .int .i64 num, .int .i64 rn, .int .i64 rd, .int .i64 sn, .int .i64 sd] 34)))
  have HP := Lib.hid (Bk.new w #[.int .i64 kd, .string nm, .slice A zs.length cap, .int .i64 num, .int .i64 rn, .int .i64 rd, .int .i64 sn, .int .i64 sd] 34)
  have HE := Lib.hid h
  obtain ⟨ag, hag⟩ : ∃ v, (f nm).getD false = v := ⟨_, rfl⟩
  obtain ⟨nb, hnb⟩ : ∃ v, numsB kd num rn rd sn sd = v := ⟨_, rfl⟩
  obtain ⟨zb, hzb⟩ : ∃ v, (zs.any fun z => !okZ z) = v := ⟨_, rfl⟩
  have hbad : badR (kd, nm, zs, num, (rn, rd), (sn, sd)) = (!nb || decide (200 < zs.length) || zb) := by rw [← hnb, ← hzb]; rfl
  have Hag := Lib.hid hag
  have Hnb := Lib.hid hnb
  have Hzb := Lib.hid hzb
  have Hbad := Lib.hid hbad
  have hml : m < maxLen := by unfold maxLen; omega
  have hnums : ∀ W, Calls Try.prog 24 #[.agg #[.int .i64 kd, .string nm, .slice A zs.length cap, .int .i64 num, .int .i64 rn, .int .i64 rd, .int .i64 sn, .int .i64 sd]] W fun e w' => e = .returned (.bool nb) ∧ Below W.heap.size W w' := fun W =>
    (numbers_any kd nm A zs.length cap num rn rd sn sd W).mono fun e w' ⟨he, hw⟩ => ⟨by rw [he, Hnb.out], hw⟩
  have Hnums := Lib.hid hnums
  have hon : Hid (∀ w2, Only (fun g => g = mb) (w.alloc (.cells #[.int .i64 kd, .string nm, .slice A zs.length cap, .int .i64 num, .int .i64 rn, .int .i64 rd, .int .i64 sn, .int .i64 sd] 34)) w2 → Only (fun g => g = mb) w w2) := Lib.hid fun w2 ho => ((Only.refl _ w).alloc _).trans ho
  have hmk : Hid ((if (f nm).isSome then m else m + 1) ≤ m + 1) := Lib.hid (by split <;> omega)
  clear hag hnb hzb hbad hnums hs hm h
  unfold maxLen at hn
  have hfin : Hid (∀ (w2 w3 : World) (e : Ending), MapB litS Try.prog 9 4 w2 mb (if (f nm).isSome then m else m + 1) (putF f nm true) → Only (fun g => g = mb) w w2 → Below w2.heap.size w2 w3 → e = .returned (.bool (ag || (!nb || decide (200 < zs.length) || zb))) → RuleSeen w mb m f (kd, nm, zs, num, (rn, rd), (sn, sd)) e w3) := Lib.hid fun w2 w3 e h1 h2 h3 h4 =>
    ⟨by rw [h4, Hbad.out]; show _ = Ending.returned (.bool ((f nm).getD false || _)); rw [Hag.out], _, h1.below h3, hmk.out, h2.trans (Only.of_below h3)⟩
  go_enter Try.func23, Try.ntmps23
  go_upto_region 3 with (first
    | (at_lookup; refine list_look rfl _ _ _ rfl 9 4 keyedS Try.underlying52 Try.underlying4 (zeroB _) rfl HM.out _ nm rfl (keyS (by unfold maxLen; exact hn)) ?_; rw [Hag.out])
    | (at_mapUpdate; refine list_store rfl _ _ _ _ rfl 9 4 keyedS Try.underlying52 Try.underlying4 litS_inj hml rfl HM.out _ nm rfl (keyS (by unfold maxLen; exact hn)) _ rfl ?_; intro w2 hm2 ho2))
  have bp2 := HP.out.only ho2 (by omega)
  have hE2 : Elems tZn w2 B A zs := (HE.out.keep ((below_self w _).mono hB) (Nat.le_refl _)).keep (ho2.to_below (B := B) (fun g hg => by omega) (by simp; omega)) (Nat.le_refl _)
  have hB2 : B ≤ w2.heap.size := by have := ho2.size; simp at this; omega
  have HQ := Lib.hid (And.intro bp2 (And.intro hm2 (And.intro (hon.out _ ho2) hE2)))
  have cp := bp2.cell
  have lp := bp2.lt
  clear bp2 hm2 ho2 hE2 HM HP cs
  cases ag
  · cases nb
    · go_wp2_with (go_at_call 24; refine (Hnums.out _).mono ?_; rintro e w' ⟨rfl, hb⟩; obtain ⟨u, rfl⟩ := ext_of hb; clear hb)
      go_ret
      exact hfin.out w2 _ _ HQ.out.2.1 HQ.out.2.2.1 (below_ext _ _) (by simp)
    · by_cases h200 : 200 < zs.length
      · have h200' : (200 : Int) < (zs.length : Int) := by omega
        go_wp2_with (go_at_call 24; refine (Hnums.out _).mono ?_; rintro e w' ⟨rfl, hb⟩; obtain ⟨u, rfl⟩ := ext_of hb; clear hb)
        go_ret
        exact hfin.out w2 _ _ HQ.out.2.1 HQ.out.2.2.1 (below_ext _ _) (by simp [h200])
      · have h200' : (zs.length : Int) ≤ 200 := by omega
        go_wp2_with (first
          | (go_at_call 24; refine (Hnums.out _).mono ?_; rintro e w' ⟨rfl, hb⟩; obtain ⟨u, rfl⟩ := ext_of hb; clear hb)
          | (go_at_call 21; refine (contains_badzones A zs cap _ B (HQ.out.2.2.2.ext hB2 _) (Nat.le_trans hB2 (size_ext _ _)) hl).mono ?_; rintro e w' ⟨rfl, hb⟩; rw [Hzb.out]; obtain ⟨u, rfl⟩ := ext_more hb; clear hb))
        go_ret
        exact hfin.out w2 _ _ HQ.out.2.1 HQ.out.2.2.1 (below_ext _ _) (by rw [decide_eq_false (show ¬ (200 : Int) < (zs.length : Int) by omega), decide_eq_false (show ¬ 200 < zs.length by omega)]; rfl)
  · go_wp2_with fail
    go_ret
    exact hfin.out w2 _ _ HQ.out.2.1 HQ.out.2.2.1 (Below.refl _ _) rfl
end Go.Proofs.Ytmklcfmdcfbpeaa
