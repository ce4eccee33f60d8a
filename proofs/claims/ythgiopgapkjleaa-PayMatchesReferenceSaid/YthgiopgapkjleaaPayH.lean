/- Layer 28 (pay): bills of one line, named forms of the contracts, and the law's own example. -/
import Derived.Test.YthgiopgapkjleaaPayF
namespace Go.Proofs.Ythgiopgapkjleaa
open Go.RowKit
set_option linter.unusedVariables false
set_option linter.unusedSimpArgs false
attribute [local go_sem] ext_cell ext_frozen lt_ext ext_drew

def Billed (w : World) (n : Int) (e : Ending) (w' : World) : Prop :=
  ∃ A c, e = .returned (.agg #[.slice A 1 c, .int .i64 n]) ∧ Elems tLine w' w'.heap.size A [(1, n)] ∧ Below w.heap.size w w'

theorem elems_line (X : World) (g t : Nat) (k n : Int) (h : X.heap.size = g) (fk : fits k) (fn : fits n) : Elems tLine (X.alloc (.cells #[.int .i64 k, .int .i64 n] t)) (g + 1) (some ⟨g, 0, none⟩) [(k, n)] :=
  Elems.of_block [[.int .i64 k, .int .i64 n]] (bk_new_at X g _ t h) (by omega) rfl (fun i hi => by
    have : i = 0 := by simpa using hi
    subst this
    exact tPair_mk (c1 := [.int .i64 _]) (c2 := [.int .i64 _]) ⟨rfl, fk⟩ ⟨rfl, fn⟩) rfl

theorem bill_any (n : Int) (w : World) (hn : fits n) : Calls Try.prog 20 #[.int .i64 n] w (Billed w n) := by
  go_enter Try.func20, Try.ntmps20
  go_wp2_with fail
  refine bodyPost_ret (v := .agg #[.slice (some ⟨w.heap.size + 1, 0, none⟩) 1 1, .int .i64 n]) (by simp [results, Try.results20, go_sem]) rfl ⟨_, _, rfl, ?_, ?_⟩
  · refine (elems_line _ _ _ 1 n ?_ (by unfold fits; omega) hn).keep (Below.refl _ _) ?_ <;> simp
  · (repeat (first | with_reducible exact Below.refl _ _ | with_reducible assumption | with_reducible refine Below.alloc0 ?_ _ | with_reducible refine Below.ext0 ?_ _ | with_reducible refine Below.drew ?_ | with_reducible refine below_drewN ?_ _ | (with_reducible refine Below.setCell (hp := ?hp) ?_ _; case hp => (first | (simp; done) | (simp; omega)))))

def cardN : ByteArray := { data := #[99, 97, 114, 100] }
def vouN : ByteArray := { data := #[118, 111, 117, 99, 104, 101, 114] }
theorem elems_mean (X : World) (g t : Nat) (s : ByteArray) (n : Int) (h : X.heap.size = g) (hs : s.size ≤ maxLen) (fn : fits n) : Elems tMean (X.alloc (.cells #[.string s, .int .i64 n] t)) (g + 1) (some ⟨g, 0, none⟩) [(s, n)] :=
  Elems.of_block [[.string s, .int .i64 n]] (bk_new_at X g _ t h) (by omega) rfl (fun i hi => by
    have : i = 0 := by simpa using hi
    subst this
    exact tPair_mk (c1 := [.string _]) (c2 := [.int .i64 _]) ⟨rfl, hs⟩ ⟨rfl, fn⟩) rfl
theorem elems_means (X : World) (g t : Nat) (s s2 : ByteArray) (n n2 : Int) (h : X.heap.size = g) (hs : s.size ≤ maxLen) (fn : fits n) (hs2 : s2.size ≤ maxLen) (fn2 : fits n2) :
    Elems tMean (X.alloc (.cells #[.string s, .int .i64 n, .string s2, .int .i64 n2] t)) (g + 1) (some ⟨g, 0, none⟩) [(s, n), (s2, n2)] :=
  Elems.of_block [[.string s, .int .i64 n], [.string s2, .int .i64 n2]] (bk_new_at X g _ t h) (by omega) rfl (fun i hi => by
    rcases (show i = 0 ∨ i = 1 by have : i < 2 := hi; omega) with rfl | rfl
    · exact tPair_mk (c1 := [.string _]) (c2 := [.int .i64 _]) ⟨rfl, hs⟩ ⟨rfl, fn⟩
    · exact tPair_mk (c1 := [.string _]) (c2 := [.int .i64 _]) ⟨rfl, hs2⟩ ⟨rfl, fn2⟩) rfl

theorem okM_card : nameB cardN = true := by decide +kernel
theorem okM_vou : nameB vouN = true := by decide +kernel
theorem newE_one (n till : Int) (h1 : 1 ≤ n) (h2 : n ≤ 1000000) : newE [(1, n)] n [(cardN, n)] till = if 0 ≤ till ∧ till ≤ 1000000000 then 0 else 1 := by
  have hr : rightB [(1, n)] n = true := by
    unfold rightB
    simp [lineB, sumOf]; omega
  have ho : okM [(cardN, n)] = true := okM_all (fun j hj m hm => by
    have : j = 0 := by have : j < 1 := hj; omega
    subst this
    simp only [List.getElem?_cons_zero, Option.some.injEq] at hm
    subst hm
    unfold badM meanB
    rw [okM_card]
    simp [hasM]; omega)
  unfold newE
  rw [hr, ho]
  by_cases h : 0 ≤ till ∧ till ≤ 1000000000
  · rw [if_pos h]; simp [h.1, h.2, sumM]
  · rw [if_neg h, if_neg]
    simp; omega

section
variable (A : Option Addr) (ls : List Ln) (cap n : Nat) (total : Int) (A2 : Option Addr) (ms : List Mn) (cap2 n2 : Nat) (till : Int) (w : World) (B : Nat)
theorem new_yes (h : Elems tLine w B A ls) (h2 : Elems tMean w B A2 ms) (hB : B ≤ w.heap.size) (hn : ls.length = n) (hl : n ≤ 60) (hn2 : ms.length = n2) (hl2 : n2 ≤ 9223372036854775807) (hE : Hid (newE ls total ms till = 0)) :
    Calls Try.prog 11 #[.agg #[.slice A n cap, .int .i64 total], .slice A2 n2 cap2, .int .i64 till] w fun e w' =>
      ∃ pb mb, e = .returned (.tuple #[.pointer (some ⟨pb, 0, none⟩), .int .i64 0]) ∧ PayIs w' pb mb 0 0 (startS total till) ∧ w.heap.size ≤ pb ∧ w.heap.size ≤ mb ∧ Below w.heap.size w w' :=
  (new_any A ls cap n total A2 ms cap2 n2 till w B h h2 hB hn hl hn2 hl2).mono fun e w' ⟨hb, h⟩ => by
    rcases h with ⟨_, pb, mb, h1, h2, h3, h4⟩ | ⟨h1, _⟩
    · exact ⟨pb, mb, h1, h2, h3, h4, hb⟩
    · exact absurd hE.out h1
theorem new_no (E : Int) (h : Elems tLine w B A ls) (h2 : Elems tMean w B A2 ms) (hB : B ≤ w.heap.size) (hn : ls.length = n) (hl : n ≤ 60) (hn2 : ms.length = n2) (hl2 : n2 ≤ 9223372036854775807) (hE : Hid (newE ls total ms till = E)) (h0 : E ≠ 0) :
    Calls Try.prog 11 #[.agg #[.slice A n cap, .int .i64 total], .slice A2 n2 cap2, .int .i64 till] w fun e w' =>
      e = .returned (.tuple #[.pointer none, .int .i64 E]) ∧ Below w.heap.size w w' :=
  (new_any A ls cap n total A2 ms cap2 n2 till w B h h2 hB hn hl hn2 hl2).mono fun e w' ⟨hb, h⟩ => by
    rw [hE.out] at h
    rcases h with ⟨h1, _⟩ | ⟨_, h1⟩
    · exact absurd h1 h0
    · exact ⟨h1, hb⟩
end

section
variable (w : World) (pb mb m K : Nat) (s : PayS)
theorem ask_is (now : Int) (s' : PayS) (a b : Int) (h : PayIs w pb mb m K s) (he : askS s now = (s', a, b)) :
    Calls Try.prog 21 #[.pointer (some ⟨pb, 0, none⟩), .int .i64 now] w fun e w' => e = .returned (.tuple #[.int .i64 a, .int .i64 b]) ∧ PayIs w' pb mb m K s' ∧ Only (fun g => g = pb ∨ g = mb) w w' := by
  have := ask_any w pb mb m K s now h
  rw [he] at this
  exact this.mono fun e w' ⟨h1, h2, h3⟩ => ⟨h1, h2, only_or h3⟩
theorem answer_is (a : Int) (y : Bool) (now : Int) (s' : PayS) (v b : Int) (h : PayIs w pb mb m K s) (hK : K ≤ 1000) (fa : fits a) (he : ansS s a y now = (s', v, b)) :
    Calls Try.prog 22 #[.pointer (some ⟨pb, 0, none⟩), .int .i64 a, .bool y, .int .i64 now] w fun e w' => e = .returned (.tuple #[.int .i64 v, .int .i64 b]) ∧ ∃ m', PayIs w' pb mb m' (K + 1) s' ∧ Only (fun g => g = pb ∨ g = mb) w w' := by
  have := answer_any w pb mb m K s a y now h hK fa
  rw [he] at this
  exact this
theorem step_is (a : Int) (y : Bool) (now : Int) (s' : PayS) (v b : Int) (h : PayIs w pb mb m K s) (hK : K ≤ 1000) (fa : fits a) (he : Hid (stepS s (a, y, now) = (s', v, b))) :
    Calls Try.prog 13 #[.pointer (some ⟨pb, 0, none⟩), .agg #[.int .i64 a, .bool y, .int .i64 now]] w fun e w' => e = .returned (.tuple #[.int .i64 v, .int .i64 b]) ∧ ∃ m', PayIs w' pb mb m' (K + 1) s' ∧ Only (fun g => g = pb ∨ g = mb) w w' := by
  have := step_any w pb mb m K s a y now h hK fa
  rw [he.out] at this
  exact this
theorem state_is (x : Int) (h : PayIs w pb mb m K s) (he : s.state = x) : Calls Try.prog 16 #[.pointer (some ⟨pb, 0, none⟩)] w fun e w' => e = .returned (.int .i64 x) ∧ w = w' := by
  have := state_any w pb mb s h.bk
  rwa [he] at this
theorem owed_is (x : Int) (h : PayIs w pb mb m K s) (he : s.owed = x) : Calls Try.prog 18 #[.pointer (some ⟨pb, 0, none⟩)] w fun e w' => e = .returned (.int .i64 x) ∧ w = w' := by
  have := owed_any w pb mb s h.bk
  rwa [he] at this
end

def noneA : Int → Option Bool := fun _ => none
def exMs : List Mn := [(cardN, 300), (vouN, 200)]
theorem exE : newE [(1, 500)] 500 exMs 100 = 0 := by decide +kernel
theorem exE2 : newE [(1, 501)] 501 exMs 100 = 19 := by decide +kernel
def e1 : PayS := ⟨10, 100, 500, 1, 1, 0, noneA⟩
def e2 : PayS := ⟨20, 100, 500, 2, 1, 0, noneA⟩
def e3 : PayS := ⟨90, 100, 500, 2, 2, 0, setA noneA 1 true⟩
def e4 : PayS := ⟨95, 100, 500, 2, 2, 500, setA (setA noneA 1 true) 2 true⟩
def e5 : PayS := ⟨20, 100, 500, 1, 1, 0, setA noneA 1 false⟩
def e6 : PayS := ⟨40, 100, 500, 1, 1, 0, setA noneA 1 false⟩
def e7 : PayS := ⟨101, 100, 500, 1, 3, 0, noneA⟩
def e8 : PayS := ⟨101, 100, 500, 1, 4, 500, setA noneA 1 true⟩
theorem x1 : askS (startS 500 100) 10 = (e1, 1, 0) := rfl
theorem x2 : askS e1 20 = (e2, 2, 0) := rfl
theorem x3 : ansS e2 1 true 90 = (e3, 2, 0) := rfl
theorem x4 : ansS e3 2 true 95 = (e4, 2, 0) := rfl
theorem x5 : ansS e1 1 false 20 = (e5, 1, 0) := rfl
theorem x6 : ansS e5 1 true 40 = (e6, 0, 9) := rfl
theorem x7 : askS e1 101 = (e7, 0, 17) := rfl
theorem x8 : ansS e7 1 true 101 = (e8, 4, 0) := rfl

/-- A payment, as it lies beside others: its blocks lie behind g. -/
structure Lay (w0 w : World) (A : Option Addr) (n : Nat) : Prop where
  low : Below w0.heap.size w0 w
  ms : Elems tMean w n A exMs
  le : n ≤ w.heap.size
  up : w0.heap.size ≤ n
theorem Lay.below {w0 w w' : World} {A : Option Addr} {n : Nat} (h : Lay w0 w A n) (hb : Below w.heap.size w w') : Lay w0 w' A n :=
  ⟨h.low.trans (hb.mono h.low.size), h.ms.keep (hb.mono h.le) (Nat.le_refl _), Nat.le_trans h.le hb.size, h.up⟩
theorem Lay.only {w0 w w' : World} {A : Option Addr} {n pb mb : Nat} (h : Lay w0 w A n) (ho : Only (fun g => g = pb ∨ g = mb) w w') (h1 : n ≤ pb) (h2 : n ≤ mb) : Lay w0 w' A n := by
  have hb : Below n w w' := ho.to_below (fun g hg => by omega) h.le
  exact ⟨h.low.trans (hb.mono h.up), h.ms.keep hb (Nat.le_refl _), Nat.le_trans h.le ho.size, h.up⟩

set_option maxRecDepth 100000 in
set_option maxHeartbeats 4000000 in
theorem head_any (w : World) : Calls Try.prog 9 #[] w fun e w' => e = .returned (.bool true) ∧ Below w.heap.size w w' := by
  go_enter Try.func9, Try.ntmps9
  go_upto_region 2 with (fail)
  refine forget (fun W => Lay w W (some ⟨w.heap.size, 0, none⟩) (w.heap.size + 1)) ⟨by (repeat (first | with_reducible exact Below.refl _ _ | with_reducible assumption | with_reducible refine Below.alloc0 ?_ _ | with_reducible refine Below.ext0 ?_ _ | with_reducible refine Below.drew ?_ | with_reducible refine below_drewN ?_ _ | (with_reducible refine Below.setCell (hp := ?hp) ?_ _; case hp => (first | (simp; done) | (simp; omega))))), ?_, by simp, by omega⟩ ?_
  · exact elems_means w w.heap.size _ cardN vouN 300 200 rfl (by decide +kernel) (by unfold fits; omega) (by decide +kernel) (by unfold fits; omega)
  rintro w1 hL
  have HL := Lib.hid hL
  clear hL
  generalize hA : some (⟨w.heap.size, 0, none⟩ : Addr) = A at *
  generalize hn : w.heap.size + 1 = n at *
  clear hA
  -- p
  go_wp2_with fail
  refine (bill_any 500 _ (by unfold fits; omega)).mono ?_
  rintro e w2 ⟨A2, c2, rfl, hE, hb⟩
  have HE := Lib.hid hE
  have HL2 := Lib.hid (HL.out.below hb)
  clear hE hb HL
  go_wp2_with fail
  refine (new_yes A2 [(1, 500)] c2 1 500 A exMs _ 2 100 w2 w2.heap.size HE.out (HL2.out.ms.keep (Below.refl _ _) HL2.out.le) (Nat.le_refl _) rfl (by omega) rfl (by omega) exE).mono ?_
  rintro e w3 ⟨pb, mb, rfl, hp, h1, h2, hb⟩
  have HP := Lib.hid hp
  have HL3 := Lib.hid (HL2.out.below hb)
  have npb : n ≤ pb := Nat.le_trans HL2.out.le h1
  have nmb : n ≤ mb := Nat.le_trans HL2.out.le h2
  clear hp h1 h2 hb HL2 HE
  go_wp2_with fail
  refine (ask_is w3 pb mb 0 0 _ 10 _ _ _ HP.out x1).mono ?_
  rintro e w4 ⟨rfl, hp, ho⟩
  have HP4 := Lib.hid hp
  have HL4 := Lib.hid (HL3.out.only ho npb nmb)
  clear hp ho HP HL3
  go_wp2_with fail
  refine (ask_is w4 pb mb 0 0 _ 20 _ _ _ HP4.out x2).mono ?_
  rintro e w5 ⟨rfl, hp, ho⟩
  have HP5 := Lib.hid hp
  have HL5 := Lib.hid (HL4.out.only ho npb nmb)
  clear hp ho HP4 HL4
  go_wp2_with fail
  refine (answer_is w5 pb mb 0 0 _ 1 true 90 _ _ _ HP5.out (by omega) (by unfold fits; omega) x3).mono ?_
  rintro e w6 ⟨rfl, m6, hp, ho⟩
  have HP6 := Lib.hid hp
  have HL6 := Lib.hid (HL5.out.only ho npb nmb)
  clear hp ho HP5 HL5
  go_wp2_with fail
  refine (answer_is w6 pb mb m6 1 _ 2 true 95 _ _ _ HP6.out (by omega) (by unfold fits; omega) x4).mono ?_
  rintro e w7 ⟨rfl, m7, hp, ho⟩
  have HP7 := Lib.hid hp
  have HL7 := Lib.hid (HL6.out.only ho npb nmb)
  clear hp ho HP6 HL6
  trace "p"
  -- q
  go_wp2_with fail
  refine (bill_any 500 _ (by unfold fits; omega)).mono ?_
  rintro e w8 ⟨A3, c3, rfl, hE, hb⟩
  have HE := Lib.hid hE
  have HL8 := Lib.hid (HL7.out.below hb)
  have HP8 := Lib.hid (HP7.out.below hb)
  clear hE hb HL7 HP7
  go_wp2_with fail
  refine (new_yes A3 [(1, 500)] c3 1 500 A exMs _ 2 100 w8 w8.heap.size HE.out (HL8.out.ms.keep (Below.refl _ _) HL8.out.le) (Nat.le_refl _) rfl (by omega) rfl (by omega) exE).mono ?_
  rintro e w9 ⟨qb, nb, rfl, hp, h1, h2, hb⟩
  have HQ := Lib.hid hp
  have HL9 := Lib.hid (HL8.out.below hb)
  have nqb : n ≤ qb := Nat.le_trans HL8.out.le h1
  have nnb : n ≤ nb := Nat.le_trans HL8.out.le h2
  have d1 : pb < w8.heap.size := HP8.out.bk.lt
  have d2 : mb < w8.heap.size := HP8.out.map.lt
  have d3 : pb < qb ∧ pb < nb ∧ mb < qb ∧ mb < nb := by omega
  have HP9 := Lib.hid (HP8.out.below hb)
  clear hp h1 h2 hb HL8 HE HP8 d1 d2
  obtain ⟨d1, d2, d3, d4⟩ := d3
  go_wp2_with fail
  refine (ask_is w9 qb nb 0 0 _ 10 _ _ _ HQ.out x1).mono ?_
  rintro e w10 ⟨rfl, hp, ho⟩
  have HQ10 := Lib.hid hp
  have HL10 := Lib.hid (HL9.out.only ho nqb nnb)
  have HP10 := Lib.hid (HP9.out.only ho (by omega) (by omega))
  clear hp ho HQ HL9 HP9
  go_wp2_with fail
  refine (answer_is w10 qb nb 0 0 _ 1 false 20 _ _ _ HQ10.out (by omega) (by unfold fits; omega) x5).mono ?_
  rintro e w11 ⟨rfl, m11, hp, ho⟩
  have HQ11 := Lib.hid hp
  have HL11 := Lib.hid (HL10.out.only ho nqb nnb)
  have HP11 := Lib.hid (HP10.out.only ho (by omega) (by omega))
  clear hp ho HQ10 HL10 HP10
  go_wp2_with fail
  refine (answer_is w11 qb nb m11 1 _ 1 true 40 _ _ _ HQ11.out (by omega) (by unfold fits; omega) x6).mono ?_
  rintro e w12 ⟨rfl, m12, hp, ho⟩
  have HL12 := Lib.hid (HL11.out.only ho nqb nnb)
  have HP12 := Lib.hid (HP11.out.only ho (by omega) (by omega))
  clear hp ho HQ11 HL11 HP11 d1 d2 d3 d4 nqb nnb
  trace "q"
  -- r
  go_wp2_with fail
  refine (bill_any 500 _ (by unfold fits; omega)).mono ?_
  rintro e w13 ⟨A4, c4, rfl, hE, hb⟩
  have HE := Lib.hid hE
  have HL13 := Lib.hid (HL12.out.below hb)
  have HP13 := Lib.hid (HP12.out.below hb)
  clear hE hb HL12 HP12
  go_wp2_with fail
  refine (new_yes A4 [(1, 500)] c4 1 500 A exMs _ 2 100 w13 w13.heap.size HE.out (HL13.out.ms.keep (Below.refl _ _) HL13.out.le) (Nat.le_refl _) rfl (by omega) rfl (by omega) exE).mono ?_
  rintro e w14 ⟨rb, lb, rfl, hp, h1, h2, hb⟩
  have HR := Lib.hid hp
  have HL14 := Lib.hid (HL13.out.below hb)
  have nrb : n ≤ rb := Nat.le_trans HL13.out.le h1
  have nlb : n ≤ lb := Nat.le_trans HL13.out.le h2
  have d1 : pb < w13.heap.size := HP13.out.bk.lt
  have d2 : mb < w13.heap.size := HP13.out.map.lt
  have d3 : pb < rb ∧ pb < lb ∧ mb < rb ∧ mb < lb := by omega
  have HP14 := Lib.hid (HP13.out.below hb)
  clear hp h1 h2 hb HL13 HE HP13 d1 d2
  obtain ⟨d1, d2, d3, d4⟩ := d3
  go_wp2_with fail
  refine (ask_is w14 rb lb 0 0 _ 10 _ _ _ HR.out x1).mono ?_
  rintro e w15 ⟨rfl, hp, ho⟩
  have HR15 := Lib.hid hp
  have HL15 := Lib.hid (HL14.out.only ho nrb nlb)
  have HP15 := Lib.hid (HP14.out.only ho (by omega) (by omega))
  clear hp ho HR HL14 HP14
  go_wp2_with fail
  refine (ask_is w15 rb lb 0 0 _ 101 _ _ _ HR15.out x7).mono ?_
  rintro e w16 ⟨rfl, hp, ho⟩
  have HR16 := Lib.hid hp
  have HL16 := Lib.hid (HL15.out.only ho nrb nlb)
  have HP16 := Lib.hid (HP15.out.only ho (by omega) (by omega))
  clear hp ho HR15 HL15 HP15
  go_wp2_with fail
  refine (state_is w16 rb lb 0 0 _ 3 HR16.out rfl).mono ?_
  rintro e w' ⟨rfl, rfl⟩
  go_wp2_with fail
  refine (answer_is w16 rb lb 0 0 _ 1 true 101 _ _ _ HR16.out (by omega) (by unfold fits; omega) x8).mono ?_
  rintro e w17 ⟨rfl, m17, hp, ho⟩
  have HR17 := Lib.hid hp
  have HL17 := Lib.hid (HL16.out.only ho nrb nlb)
  have HP17 := Lib.hid (HP16.out.only ho (by omega) (by omega))
  clear hp ho HR16 HL16 HP16 d1 d2 d3 d4
  trace "r"
  -- the last
  go_wp2_with fail
  refine (bill_any 501 _ (by unfold fits; omega)).mono ?_
  rintro e w18 ⟨A5, c5, rfl, hE, hb⟩
  have HE := Lib.hid hE
  have HL18 := Lib.hid (HL17.out.below hb)
  have HP18 := Lib.hid (HP17.out.below hb)
  have HR18 := Lib.hid (HR17.out.below hb)
  clear hE hb HL17 HP17 HR17
  go_wp2_with fail
  refine (new_no A5 [(1, 501)] c5 1 501 A exMs _ 2 100 w18 w18.heap.size 19 HE.out (HL18.out.ms.keep (Below.refl _ _) HL18.out.le) (Nat.le_refl _) rfl (by omega) rfl (by omega) exE2 (by omega)).mono ?_
  rintro e w19 ⟨rfl, hb⟩
  have HL19 := Lib.hid (HL18.out.below hb)
  have HP19 := Lib.hid (HP18.out.below hb)
  have HR19 := Lib.hid (HR18.out.below hb)
  clear hb HL18 HP18 HR18 HE
  go_wp2_with fail
  refine (owed_is w19 pb mb _ _ _ 500 HP19.out rfl).mono ?_
  rintro e w' ⟨rfl, rfl⟩
  go_wp2_with fail
  refine (owed_is w19 rb lb _ _ _ 500 HR19.out rfl).mono ?_
  rintro e w' ⟨rfl, rfl⟩
  go_wp2_with fail
  go_ret
  exact ⟨rfl, HL19.out.low⟩
end Go.Proofs.Ythgiopgapkjleaa
