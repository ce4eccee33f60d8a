/- Layer 34 (deal): the chapter's examples, walked. -/
import Derived.Test.YtggmihnhdojepaaDealX
import Derived.Test.YtggmihnhdojepaaDealT
import Derived.Deep.RegionWith
import Derived.Test.YtggmihnhdojepaaDealI
import Derived.Deep.DeepCutAuto
namespace Go.Proofs.Ytggmihnhdojepaa
open Go.RowKit
set_option linter.unusedVariables false
set_option linter.unusedSimpArgs false
attribute [local go_sem] ext_cell ext_frozen lt_ext ext_drew

section
variable {A : Option Addr} {ls : List Ln} {cap n : Nat} {total : Int} {A2 : Option Addr} {ms : List Mn} {cap2 n2 : Nat} {pn : ByteArray} {w : World} {B : Nat}
theorem sale_in (h : Elems tLine w B A ls) (h2 : Elems tMean w B A2 ms) (hB : B ≤ w.heap.size) (hn : ls.length = n) (hl : n ≤ 60) (ht : fits total) (hn2 : ms.length = n2) (hl2 : n2 ≤ 9223372036854775807) (hpn : pn.size ≤ maxLen) (ps : List Pst) (er : Int) (h3 : saleL ls total pn ms = ps) (h4 : saleE ls total pn ms = er) :
    ∀ X, Below w.heap.size w X → Calls Try.prog 12 #[.agg #[.slice A n cap, .int .i64 total], .string pn, .slice A2 n2 cap2] X (Booked X ps er) := fun X hX => by
  have := sale_any (cap := cap) (cap2 := cap2) (h.keep (hX.mono hB) (Nat.le_refl _)) (h2.keep (hX.mono hB) (Nat.le_refl _)) (by have := hX.size; omega) hn hl ht hn2 hl2 hpn
  rwa [h3, h4] at this
theorem refund_in (amount : Int) (h : Elems tLine w B A ls) (h2 : Elems tMean w B A2 ms) (hB : B ≤ w.heap.size) (hn : ls.length = n) (hl : n ≤ 60) (ht : fits total) (hn2 : ms.length = n2) (hl2 : n2 ≤ 9223372036854775807) (hfa : fits amount) (ps : List Pst) (er : Int) (h3 : refundL ls total amount ms = ps) (h4 : refundE ls total amount ms = er) :
    ∀ X, Below w.heap.size w X → Calls Try.prog 16 #[.agg #[.slice A n cap, .int .i64 total], .int .i64 amount, .slice A2 n2 cap2] X (Booked X ps er) := fun X hX => by
  have := refund_any (cap := cap) (cap2 := cap2) amount (h.keep (hX.mono hB) (Nat.le_refl _)) (h2.keep (hX.mono hB) (Nat.le_refl _)) (by have := hX.size; omega) hn hl ht hn2 hl2 hfa
  rwa [h3, h4] at this
theorem resale_in (ok tg si : Bool) (lim price fn fd tn td cn cd sn sd rn rd y m : Int) (h : Elems tLine w B A ls) (h2 : Elems tMean w B A2 ms) (hB : B ≤ w.heap.size) (hn : ls.length = n) (hl : n ≤ 60) (ht : fits total) (hn2 : ms.length = n2) (hl2 : n2 ≤ 9223372036854775807) (hpn : pn.size ≤ maxLen) (hfm : fits m) (ps : List Pst) (er : Int) (h3 : resaleL m ls total cn cd sn sd pn ms = ps) (h4 : resaleE m ls total cn cd sn sd pn ms = er) :
    ∀ X, Below w.heap.size w X → Calls Try.prog 14 #[.int .i64 m, .agg #[.slice A n cap, .int .i64 total], .agg #[.bool ok, .bool tg, .bool si, .int .i64 lim, .int .i64 price, .int .i64 fn, .int .i64 fd, .int .i64 tn, .int .i64 td, .int .i64 cn, .int .i64 cd, .int .i64 sn, .int .i64 sd, .int .i64 rn, .int .i64 rd, .int .i64 y], .string pn, .slice A2 n2 cap2] X (Booked X ps er) := fun X hX => by
  have := resale_any (cap := cap) (cap2 := cap2) ok tg si lim price fn fd tn td cn cd sn sd rn rd y m (h.keep (hX.mono hB) (Nat.le_refl _)) (h2.keep (hX.mono hB) (Nat.le_refl _)) (by have := hX.size; omega) hn hl ht hn2 hl2 hpn hfm
  rwa [h3, h4] at this
set_option maxRecDepth 100000 in
set_option maxHeartbeats 4000000 in
theorem sale_19 (h : Elems tLine w B A ls) (h2 : Elems tMean w B A2 ms) (hB : B ≤ w.heap.size) (hn : ls.length = n) (hl : n ≤ 60) (ht : fits total) (hn2 : ms.length = n2) (hl2 : n2 ≤ 9223372036854775807) (hpn : pn.size ≤ maxLen) (hr : rightB ls total = true) (hnb : nameB pn = true) (htb : totB ms = true) (hm : sumM ms ≠ total) :
    Calls Try.prog 12 #[.agg #[.slice A n cap, .int .i64 total], .string pn, .slice A2 n2 cap2] w fun e w' => e = .returned (.tuple #[.agg #[.int .i64 0, .slice none 0 0], .int .i64 19]) ∧ Below w.heap.size w w' := by
  obtain ⟨tv, htv⟩ : ∃ v, totV ms = v := ⟨_, rfl⟩
  have Htot := Lib.hid (total_in (cap2 := cap2) h2 hB hn2 hl2 tv true htv htb)
  have Hrgt := Lib.hid (right_in (cap := cap) h hB hn hl ht true hr)
  have Hnam := Lib.hid (name_in hpn true hnb)
  have hm' : ¬ tv = total := by rw [← htv]; unfold totV; rw [if_pos htb]; exact hm
  clear htv htb hr hnb h h2 hm
  go_enter Try.func12, Try.ntmps12
  go_wp2_with (first
    | (go_at_call 26; refine Calls.mono (Htot.out _ ?bel) ?_; (case bel => (repeat (first | with_reducible exact Below.refl _ _ | with_reducible assumption | with_reducible refine Below.alloc0 ?_ _ | with_reducible refine Below.ext0 ?_ _ | with_reducible refine Below.drew ?_ | with_reducible refine below_drewN ?_ _ | (with_reducible refine Below.setCell (hp := ?hp) ?_ _; case hp => (first | (simp; done) | (simp; omega)))))); rintro e w' ⟨rfl, hb⟩; (first | (obtain ⟨u, rfl⟩ := ext_more hb; clear hb) | (obtain ⟨u, rfl⟩ := ext_more_alloc hb; clear hb) | (obtain ⟨u, rfl⟩ := ext_of hb; clear hb)))
    | (go_at_call 27; refine Calls.mono (Hrgt.out _ ?bel) ?_; (case bel => (repeat (first | with_reducible exact Below.refl _ _ | with_reducible assumption | with_reducible refine Below.alloc0 ?_ _ | with_reducible refine Below.ext0 ?_ _ | with_reducible refine Below.drew ?_ | with_reducible refine below_drewN ?_ _ | (with_reducible refine Below.setCell (hp := ?hp) ?_ _; case hp => (first | (simp; done) | (simp; omega)))))); rintro e w' ⟨rfl, hb⟩; (first | (obtain ⟨u, rfl⟩ := ext_more hb; clear hb) | (obtain ⟨u, rfl⟩ := ext_more_alloc hb; clear hb) | (obtain ⟨u, rfl⟩ := ext_of hb; clear hb)))
    | (go_at_call 28; refine Calls.mono (Hnam.out _) ?_; rintro e w' ⟨rfl, rfl⟩))
  all_goals exact bodyPost_ret (v := .tuple #[.agg #[.int .i64 0, .slice none 0 0], .int .i64 19]) (by simp [results, Try.results12, go_sem]) rfl ⟨rfl, by (repeat (first | with_reducible exact Below.refl _ _ | with_reducible assumption | with_reducible refine Below.alloc0 ?_ _ | with_reducible refine Below.ext0 ?_ _ | with_reducible refine Below.drew ?_ | with_reducible refine below_drewN ?_ _ | (with_reducible refine Below.setCell (hp := ?hp) ?_ _; case hp => (first | (simp; done) | (simp; omega)))))⟩
theorem sale_19_in (h : Elems tLine w B A ls) (h2 : Elems tMean w B A2 ms) (hB : B ≤ w.heap.size) (hn : ls.length = n) (hl : n ≤ 60) (ht : fits total) (hn2 : ms.length = n2) (hl2 : n2 ≤ 9223372036854775807) (hpn : pn.size ≤ maxLen) (hr : rightB ls total = true) (hnb : nameB pn = true) (htb : totB ms = true) (hm : sumM ms ≠ total) :
    ∀ X, Below w.heap.size w X → Calls Try.prog 12 #[.agg #[.slice A n cap, .int .i64 total], .string pn, .slice A2 n2 cap2] X fun e w' => e = .returned (.tuple #[.agg #[.int .i64 0, .slice none 0 0], .int .i64 19]) ∧ Below X.heap.size X w' := fun X hX =>
  sale_19 (h.keep (hX.mono hB) (Nat.le_refl _)) (h2.keep (hX.mono hB) (Nat.le_refl _)) (by have := hX.size; omega) hn hl ht hn2 hl2 hpn hr hnb htb hm
theorem mon_right : rightB lsH 1210 = true := by decide +kernel
theorem mon_name : nameB annN = true := by decide +kernel
theorem mon_tot : totB [(cardN, 1000)] = true := by decide +kernel
theorem mon_sum : sumM [(cardN, 1000)] ≠ 1210 := by decide +kernel
theorem refund_at (amount : Int) (h : Elems tLine w B A ls) (hB : B ≤ w.heap.size) (hn : ls.length = n) (hl : n ≤ 60) (ht : fits total) (hn2 : ms.length = n2) (hl2 : n2 ≤ 9223372036854775807) (hfa : fits amount) (ps : List Pst) (er : Int) (h3 : refundL ls total amount ms = ps) (h4 : refundE ls total amount ms = er) :
    ∀ X A2 cap2, Below w.heap.size w X → Elems tMean X X.heap.size A2 ms → Calls Try.prog 16 #[.agg #[.slice A n cap, .int .i64 total], .int .i64 amount, .slice A2 n2 cap2] X (Booked X ps er) := fun X A2 cap2 hX h2 => by
  have := refund_any (cap := cap) (cap2 := cap2) amount (h.keep (hX.mono hB) (by have := hX.size; omega)) h2 (Nat.le_refl _) hn hl ht hn2 hl2 hfa
  rwa [h3, h4] at this
theorem resale_at (ok tg si : Bool) (lim price fn fd tn td cn cd sn sd rn rd y m : Int) (h : Elems tLine w B A ls) (hB : B ≤ w.heap.size) (hn : ls.length = n) (hl : n ≤ 60) (ht : fits total) (hn2 : ms.length = n2) (hl2 : n2 ≤ 9223372036854775807) (hpn : pn.size ≤ maxLen) (hfm : fits m) (ps : List Pst) (er : Int) (h3 : resaleL m ls total cn cd sn sd pn ms = ps) (h4 : resaleE m ls total cn cd sn sd pn ms = er) :
    ∀ X A2 cap2, Below w.heap.size w X → Elems tMean X X.heap.size A2 ms → Calls Try.prog 14 #[.int .i64 m, .agg #[.slice A n cap, .int .i64 total], .agg #[.bool ok, .bool tg, .bool si, .int .i64 lim, .int .i64 price, .int .i64 fn, .int .i64 fd, .int .i64 tn, .int .i64 td, .int .i64 cn, .int .i64 cd, .int .i64 sn, .int .i64 sd, .int .i64 rn, .int .i64 rd, .int .i64 y], .string pn, .slice A2 n2 cap2] X (Booked X ps er) := fun X A2 cap2 hX h2 => by
  have := resale_any (cap := cap) (cap2 := cap2) ok tg si lim price fn fd tn td cn cd sn sd rn rd y m (h.keep (hX.mono hB) (by have := hX.size; omega)) h2 (Nat.le_refl _) hn hl ht hn2 hl2 hpn hfm
  rwa [h3, h4] at this
end
theorem elems_line3 {w : World} {b : Nat} {k1 a1 k2 a2 k3 a3 : Int} (h : Bk w b #[.int .i64 k1, .int .i64 a1, .int .i64 k2, .int .i64 a2, .int .i64 k3, .int .i64 a3] 61) (f1 : fits k1 ∧ fits a1) (f2 : fits k2 ∧ fits a2) (f3 : fits k3 ∧ fits a3) (hb : b < w.heap.size) : Elems tLine w w.heap.size (some ⟨b, 0, none⟩) [(k1, a1), (k2, a2), (k3, a3)] :=
  Elems.of_block (t := 61) [[.int .i64 k1, .int .i64 a1], [.int .i64 k2, .int .i64 a2], [.int .i64 k3, .int .i64 a3]] h (by omega) rfl (fun i hi => by
    have h3 : i = 0 ∨ i = 1 ∨ i = 2 := by simp at hi; omega
    rcases h3 with rfl | rfl | rfl
    · exact ⟨[.int .i64 k1], [.int .i64 a1], rfl, ⟨rfl, f1.1⟩, ⟨rfl, f1.2⟩⟩
    · exact ⟨[.int .i64 k2], [.int .i64 a2], rfl, ⟨rfl, f2.1⟩, ⟨rfl, f2.2⟩⟩
    · exact ⟨[.int .i64 k3], [.int .i64 a3], rfl, ⟨rfl, f3.1⟩, ⟨rfl, f3.2⟩⟩) rfl
theorem rd_mean (w : World) (B : Nat) (s : ByteArray) (n : Int) (h : s.size ≤ maxLen) (hn : fits n) : tMean.rd w B [.string s, .int .i64 n] (s, n) := ⟨[.string s], [.int .i64 n], rfl, ⟨rfl, h⟩, ⟨rfl, hn⟩⟩
theorem rd_pst (w : World) (B : Nat) (k : Int) (s : ByteArray) (n : Int) (hk : fits k) (h : s.size ≤ maxLen) (hn : fits n) : tPst.rd w B [.int .i64 k, .string s, .int .i64 n] ((k, s), n) := ⟨[.int .i64 k, .string s], [.int .i64 n], rfl, ⟨[.int .i64 k], [.string s], rfl, ⟨rfl, hk⟩, ⟨rfl, h⟩⟩, ⟨rfl, hn⟩⟩
theorem elems_mean1 {w : World} {b : Nat} {s : ByteArray} {n : Int} (h : Bk w b #[.string s, .int .i64 n] 45) (hs : s.size ≤ maxLen) (hn : fits n) (hb : b < w.heap.size) : Elems tMean w w.heap.size (some ⟨b, 0, none⟩) [(s, n)] :=
  Elems.of_block (t := 45) [[.string s, .int .i64 n]] h (by omega) rfl (fun i hi => by obtain rfl : i = 0 := (by simp at hi; omega); exact rd_mean _ _ _ _ hs hn) rfl
theorem elems_mean2 {w : World} {b : Nat} {s : ByteArray} {n : Int} {s2 : ByteArray} {n2 : Int} (h : Bk w b #[.string s, .int .i64 n, .string s2, .int .i64 n2] 45) (hs : s.size ≤ maxLen) (hn : fits n) (hs2 : s2.size ≤ maxLen) (hn2 : fits n2) (hb : b < w.heap.size) : Elems tMean w w.heap.size (some ⟨b, 0, none⟩) [(s, n), (s2, n2)] :=
  Elems.of_block (t := 45) [[.string s, .int .i64 n], [.string s2, .int .i64 n2]] h (by omega) rfl (fun i hi => by
    have h3 : i = 0 ∨ i = 1 := by simp at hi; omega
    rcases h3 with rfl | rfl
    · exact rd_mean _ _ _ _ hs hn
    · exact rd_mean _ _ _ _ hs2 hn2) rfl
theorem len_card : cardN.size ≤ maxLen := by show 4 ≤ maxLen; unfold maxLen; omega
theorem len_gift : giftN.size ≤ maxLen := by show 4 ≤ maxLen; unfold maxLen; omega
theorem len_ann : annN.size ≤ maxLen := by show 3 ≤ maxLen; unfold maxLen; omega
theorem len_no : noName.size ≤ maxLen := by show 0 ≤ maxLen; omega
theorem elems_pst (w : World) (b : Nat) (xs : List Pst) (h : Bk w b (xs.map fun p => [Value.int .i64 p.1.1, .string p.1.2, .int .i64 p.2]).flatten.toArray 55) (hx : ∀ p ∈ xs, fits p.1.1 ∧ p.1.2.size ≤ maxLen ∧ fits p.2) (hb : b < w.heap.size) : Elems tPst w w.heap.size (some ⟨b, 0, none⟩) xs :=
  Elems.of_block (t := 55) (xs.map fun p => [Value.int .i64 p.1.1, .string p.1.2, .int .i64 p.2]) h hb (by simp) (fun i hi => by
    obtain ⟨h1, h2, h3⟩ := hx _ (List.getElem_mem hi)
    have e : (xs.map fun p => [Value.int .i64 p.1.1, .string p.1.2, .int .i64 p.2])[i]'(by simpa using hi) = [Value.int .i64 xs[i].1.1, .string xs[i].1.2, .int .i64 xs[i].2] := by simp
    rw [e]
    exact rd_pst _ _ _ _ _ h1 h2 h3) (by simp)

def saleX : List Pst := [((5, cardN), -1000), ((5, giftN), -210), ((2, noName), 1000), ((1, noName), 100), ((3, noName), 110)]
def refundX : List Pst := [((5, cardN), 500), ((5, giftN), 105), ((2, noName), -500), ((1, noName), -50), ((3, noName), -55)]
def resaleX : List Pst := [((5, cardN), -1100), ((2, noName), 110), ((6, annN), 990)]
theorem same_in {A1 A2 : Option Addr} {xs : List Pst} {w : World} {B n1 : Nat} (h1 : Elems tPst w B A1 xs) (h2 : Elems tPst w B A2 xs) (hB : B ≤ w.heap.size) (hn1 : n1 = xs.length) {n2 : Nat} (hn2 : n2 = xs.length) (hl1 : n1 ≤ 100000) (hl2 : n2 ≤ 100000) (c1 c2 : Nat) :
    ∀ X, Below w.heap.size w X → Calls Try.prog 18 #[.agg #[.int .i64 0, .slice A1 n1 c1], .agg #[.int .i64 0, .slice A2 n2 c2]] X fun e w' => e = .returned (.bool true) ∧ Below X.heap.size X w' := fun X hX => by
  have := same_any A1 A2 xs xs n1 c1 n2 c2 X B (h1.keep (hX.mono hB) (Nat.le_refl _)) (h2.keep (hX.mono hB) (Nat.le_refl _)) (by have := hX.size; omega) hn1 hn2 hl1 hl2
  rwa [decide_eq_true rfl] at this
def dcH : Array Value := #[.bool false, .bool false, .bool false, .int .i64 0, .int .i64 0, .int .i64 0, .int .i64 0, .int .i64 0, .int .i64 0, .int .i64 6, .int .i64 5, .int .i64 1, .int .i64 10, .int .i64 0, .int .i64 0, .int .i64 0]
set_option maxRecDepth 100000 in
set_option maxHeartbeats 8000000 in
theorem head_any (w : World) : Calls Try.prog 10 #[] w fun e w' => e = .returned (.bool true) ∧ Below w.heap.size w w' := by
  go_enter Try.func10, Try.ntmps10
  go_upto_region 4 with (fail)
  refine forget (fun X => Below w.heap.size w X ∧ Bk X w.heap.size #[.int .i64 1, .int .i64 1000, .int .i64 2, .int .i64 100, .int .i64 3, .int .i64 110] 61 ∧ Bk X (w.heap.size + 1) #[.slice (some ⟨w.heap.size, 0, none⟩) 3 3, .int .i64 1210] 24 ∧ Bk X (w.heap.size + 2) #[.string cardN, .int .i64 1000, .string giftN, .int .i64 210] 45 ∧ Bk X (w.heap.size + 3) dcH 28) ⟨by (repeat (first | with_reducible exact Below.refl _ _ | with_reducible assumption | with_reducible refine Below.alloc0 ?_ _ | with_reducible refine Below.ext0 ?_ _ | with_reducible refine Below.drew ?_ | with_reducible refine below_drewN ?_ _ | (with_reducible refine Below.setCell (hp := ?hp) ?_ _; case hp => (first | (simp; done) | (simp; omega))))), ((((Bk.new _ _ _).alloc _).alloc _).alloc _), ?_, ?_, ?_⟩ ?_
  · exact ((bk_new_at _ _ _ _ (by simp)).alloc _).alloc _
  · exact (bk_new_at _ _ _ _ (by simp)).alloc _
  · exact bk_new_at _ _ _ _ (by simp)
  generalize hp : w.heap.size = p at *
  rintro W ⟨hw, k0, k1, k2, k3⟩
  have HW := Lib.hid (And.intro hw (And.intro k0 (And.intro k1 (And.intro k2 k3))))
  have hfit : ∀ x : Int, -100000 ≤ x → x ≤ 100000 → fits x := fun x h1 h2 => by unfold fits; omega
  have hL : Elems tLine W W.heap.size (some ⟨p, 0, none⟩) lsH := elems_line3 k0 ⟨hfit _ (by omega) (by omega), hfit _ (by omega) (by omega)⟩ ⟨hfit _ (by omega) (by omega), hfit _ (by omega) (by omega)⟩ ⟨hfit _ (by omega) (by omega), hfit _ (by omega) (by omega)⟩ k0.lt
  have hM : Elems tMean W W.heap.size (some ⟨p + 2, 0, none⟩) [(cardN, 1000), (giftN, 210)] := elems_mean2 k2 len_card (hfit _ (by omega) (by omega)) len_gift (hfit _ (by omega) (by omega)) k2.lt
  have hM1 : Elems tMean W W.heap.size (some ⟨p + 2, 0, none⟩) [(cardN, 1000)] := fun i hi => by obtain rfl : i = 0 := (by simp at hi; omega); exact hM 0 (by simp)
  have HS := Lib.hid (sale_in (cap := 3) (cap2 := 2) (n := 3) (n2 := 2) (pn := annN) hL hM (Nat.le_refl _) rfl (by omega) (hfit 1210 (by omega) (by omega)) rfl (by omega) len_ann saleX _ ex_saleL ex_sale)
  have HS2 := Lib.hid (sale_19_in (cap := 3) (cap2 := 2) (n := 3) (n2 := 1) (pn := annN) hL hM1 (Nat.le_refl _) rfl (by omega) (hfit 1210 (by omega) (by omega)) rfl (by omega) len_ann mon_right mon_name mon_tot mon_sum)
  have HR := Lib.hid (refund_at (cap := 3) (n := 3) (n2 := 2) 605 hL (Nat.le_refl _) rfl (by omega) (hfit 1210 (by omega) (by omega)) rfl (by omega) (hfit _ (by omega) (by omega)) refundX _ ex_refundL ex_refund)
  have HZ := Lib.hid (resale_at (cap := 3) (n := 3) (n2 := 1) (pn := annN) false false false 0 0 0 0 0 0 6 5 1 10 0 0 0 1100 hL (Nat.le_refl _) rfl (by omega) (hfit 1210 (by omega) (by omega)) rfl (by omega) len_ann (hfit _ (by omega) (by omega)) resaleX _ ex_resaleL ex_resale)
  have HD := Lib.hid (resale_at (cap := 3) (n := 3) (n2 := 1) (pn := annN) false false false 0 0 0 0 0 0 6 5 1 10 0 0 0 1201 hL (Nat.le_refl _) rfl (by omega) (hfit 1210 (by omega) (by omega)) rfl (by omega) len_ann (hfit _ (by omega) (by omega)) _ _ rfl ex_denied)
  have HFi := Lib.hid hfit
  have HL := Lib.hid hL
  have c1 := k1.cell
  have c3 := k3.cell
  unfold dcH at c3
  have l1 := k1.lt
  have l3 := k3.lt
  clear hw k0 k1 k2 k3 hfit hL hM hM1
  go_upto_region 5 with (go_at_call 12; refine (HS.out _ ?bel).mono ?_; (case bel => (repeat (first | with_reducible exact Below.refl _ _ | with_reducible assumption | with_reducible refine Below.alloc0 ?_ _ | with_reducible refine Below.ext0 ?_ _ | with_reducible refine Below.drew ?_ | with_reducible refine below_drewN ?_ _ | (with_reducible refine Below.setCell (hp := ?hp) ?_ _; case hp => (first | (simp; done) | (simp; omega)))))); rintro e w4 ⟨A4, n4, q4, rfl, hn4, hE4, hc4, hm4, hb4⟩; obtain rfl : n4 = 5 := hn4)
  have hw4 : Below W.heap.size W w4 := by (repeat (first | with_reducible exact Below.refl _ _ | with_reducible assumption | with_reducible refine Below.alloc0 ?_ _ | with_reducible refine Below.ext0 ?_ _ | with_reducible refine Below.drew ?_ | with_reducible refine below_drewN ?_ _ | (with_reducible refine Below.setCell (hp := ?hp) ?_ _; case hp => (first | (simp; done) | (simp; omega)))))
  have hw4s := hw4.size
  have hu4 := hw4
  have hus4 := hu4.size
  refine forget (fun X => Below W.heap.size W X ∧ Elems tPst X X.heap.size A4 saleX ∧ Bk X w4.heap.size #[.int .i64 0, .slice A4 5 q4] 34) ⟨by (repeat (first | with_reducible exact Below.refl _ _ | with_reducible assumption | with_reducible refine Below.alloc0 ?_ _ | with_reducible refine Below.ext0 ?_ _ | with_reducible refine Below.drew ?_ | with_reducible refine below_drewN ?_ _ | (with_reducible refine Below.setCell (hp := ?hp) ?_ _; case hp => (first | (simp; done) | (simp; omega))))), (hE4.keep (below_self _ _) (by simp)), (Bk.new _ _ _)⟩ ?_
  generalize w4.heap.size = b4 at *
  clear hE4 hb4 hw4 hu4 HS
  rintro W4 ⟨hw, hE4, k4⟩
  have HX4 := Lib.hid (And.intro hE4 k4)
  have HW9 := Lib.hid hw
  have d1 := fun i => (hw.cell (p := ⟨p + 1, i, none⟩) l1).trans (c1 i)
  have d3 := fun i => (hw.cell (p := ⟨p + 3, i, none⟩) l3).trans (c3 i)
  have hws := hw.size
  have m1 : p + 1 < W4.heap.size := by omega
  have m3 : p + 3 < W4.heap.size := by omega
  clear hw hE4 k4
  go_upto_region 6 with (go_at_call 16; refine (HR.out _ _ _ ?bel ?el).mono ?_; (case bel => have hw := HW9.out; (repeat (first | with_reducible exact Below.refl _ _ | with_reducible assumption | with_reducible refine Below.alloc0 ?_ _ | with_reducible refine Below.ext0 ?_ _ | with_reducible refine Below.drew ?_ | with_reducible refine below_drewN ?_ _ | (with_reducible refine Below.setCell (hp := ?hp) ?_ _; case hp => (first | (simp; done) | (simp; omega)))))); (case el => exact elems_mean2 (Bk.new _ _ _) len_card (HFi.out _ (by omega) (by omega)) len_gift (HFi.out _ (by omega) (by omega)) (by simp)); rintro e w6 ⟨A6, n6, q6, rfl, hn6, hE6, hc6, hm6, hb6⟩; obtain rfl : n6 = 5 := hn6)
  have hw6 : Below W4.heap.size W4 w6 := Below.trans0 (below_self _ _) hb6
  have hu6 : Below W.heap.size W w6 := Below.trans0 HW9.out hw6
  have hus6 := hu6.size
  refine forget (fun X => Below W.heap.size W X ∧ Elems tPst X X.heap.size A4 saleX ∧ Bk X b4 #[.int .i64 0, .slice A4 5 q4] 34 ∧ Elems tPst X X.heap.size A6 refundX ∧ Bk X w6.heap.size #[.int .i64 0, .slice A6 5 q6] 34) ⟨Below.alloc0 hu6 _, (HX4.out.1.keep (Below.alloc0 hw6 _) (by have := hw6.size; simp; omega)), (HX4.out.2.below (Below.alloc0 hw6 _)), (hE6.keep (below_self _ _) (by simp)), (Bk.new _ _ _)⟩ ?_
  generalize w6.heap.size = b6 at *
  clear hE6 hb6 hw6 hu6 HR HX4 HW9 d1 d3 hws m1 m3
  rintro W6 ⟨hw, hE4, k4, hE6, k6⟩
  have HX4 := Lib.hid (And.intro hE4 k4)
  have HX6 := Lib.hid (And.intro hE6 k6)
  have HW9 := Lib.hid hw
  have d1 := fun i => (hw.cell (p := ⟨p + 1, i, none⟩) l1).trans (c1 i)
  have d3 := fun i => (hw.cell (p := ⟨p + 3, i, none⟩) l3).trans (c3 i)
  have hws := hw.size
  have m1 : p + 1 < W6.heap.size := by omega
  have m3 : p + 3 < W6.heap.size := by omega
  clear hw hE4 k4 hE6 k6
  go_upto_region 7 with (go_at_call 14; refine (HZ.out _ _ _ ?bel ?el).mono ?_; (case bel => have hw := HW9.out; (repeat (first | with_reducible exact Below.refl _ _ | with_reducible assumption | with_reducible refine Below.alloc0 ?_ _ | with_reducible refine Below.ext0 ?_ _ | with_reducible refine Below.drew ?_ | with_reducible refine below_drewN ?_ _ | (with_reducible refine Below.setCell (hp := ?hp) ?_ _; case hp => (first | (simp; done) | (simp; omega)))))); (case el => exact elems_mean1 (Bk.new _ _ _) len_card (HFi.out _ (by omega) (by omega)) (by simp)); rintro e w8 ⟨A8, n8, q8, rfl, hn8, hE8, hc8, hm8, hb8⟩; obtain rfl : n8 = 3 := hn8)
  have hw8 : Below W6.heap.size W6 w8 := Below.trans0 (below_self _ _) hb8
  have hu8 : Below W.heap.size W w8 := Below.trans0 HW9.out hw8
  have hus8 := hu8.size
  refine forget (fun X => Below W.heap.size W X ∧ Elems tPst X X.heap.size A4 saleX ∧ Bk X b4 #[.int .i64 0, .slice A4 5 q4] 34 ∧ Elems tPst X X.heap.size A6 refundX ∧ Bk X b6 #[.int .i64 0, .slice A6 5 q6] 34 ∧ Elems tPst X X.heap.size A8 resaleX ∧ Bk X w8.heap.size #[.int .i64 0, .slice A8 3 q8] 34) ⟨Below.alloc0 hu8 _, (HX4.out.1.keep (Below.alloc0 hw8 _) (by have := hw8.size; simp; omega)), (HX4.out.2.below (Below.alloc0 hw8 _)), (HX6.out.1.keep (Below.alloc0 hw8 _) (by have := hw8.size; simp; omega)), (HX6.out.2.below (Below.alloc0 hw8 _)), (hE8.keep (below_self _ _) (by simp)), (Bk.new _ _ _)⟩ ?_
  generalize w8.heap.size = b8 at *
  clear hE8 hb8 hw8 hu8 HZ HX4 HX6 HW9 d1 d3 hws m1 m3
  rintro W8 ⟨hw, hE4, k4, hE6, k6, hE8, k8⟩
  have HX4 := Lib.hid (And.intro hE4 k4)
  have HX6 := Lib.hid (And.intro hE6 k6)
  have HX8 := Lib.hid (And.intro hE8 k8)
  have HW9 := Lib.hid hw
  have d1 := fun i => (hw.cell (p := ⟨p + 1, i, none⟩) l1).trans (c1 i)
  have d3 := fun i => (hw.cell (p := ⟨p + 3, i, none⟩) l3).trans (c3 i)
  have hws := hw.size
  have m1 : p + 1 < W8.heap.size := by omega
  have m3 : p + 3 < W8.heap.size := by omega
  clear hw hE4 k4 hE6 k6 hE8 k8
  go_upto_region 8 with (go_at_call 14; refine (HD.out _ _ _ ?bel ?el).mono ?_; (case bel => have hw := HW9.out; (repeat (first | with_reducible exact Below.refl _ _ | with_reducible assumption | with_reducible refine Below.alloc0 ?_ _ | with_reducible refine Below.ext0 ?_ _ | with_reducible refine Below.drew ?_ | with_reducible refine below_drewN ?_ _ | (with_reducible refine Below.setCell (hp := ?hp) ?_ _; case hp => (first | (simp; done) | (simp; omega)))))); (case el => exact elems_mean1 (Bk.new _ _ _) len_card (HFi.out _ (by omega) (by omega)) (by simp)); rintro e w9 ⟨A9, n9, q9, rfl, hn9, hE9, hc9, hm9, hb9⟩)
  have hw9 : Below W8.heap.size W8 w9 := Below.trans0 (below_self _ _) hb9
  have hu9 : Below W.heap.size W w9 := Below.trans0 HW9.out hw9
  have hus9 := hw9.size
  refine forget (fun X => Below W.heap.size W X ∧ Elems tPst X X.heap.size A4 saleX ∧ Bk X b4 #[.int .i64 0, .slice A4 5 q4] 34 ∧ Elems tPst X X.heap.size A6 refundX ∧ Bk X b6 #[.int .i64 0, .slice A6 5 q6] 34 ∧ Elems tPst X X.heap.size A8 resaleX ∧ Bk X b8 #[.int .i64 0, .slice A8 3 q8] 34) ⟨Below.alloc0 hu9 _, (HX4.out.1.keep (Below.alloc0 hw9 _) (by simp; omega)), (HX4.out.2.below (Below.alloc0 hw9 _)), (HX6.out.1.keep (Below.alloc0 hw9 _) (by simp; omega)), (HX6.out.2.below (Below.alloc0 hw9 _)), (HX8.out.1.keep (Below.alloc0 hw9 _) (by simp; omega)), (HX8.out.2.below (Below.alloc0 hw9 _))⟩ ?_
  generalize w9.heap.size = b9 at *
  clear hE9 hb9 hw9 hu9 hus9 HD HX4 HX6 HX8 HW9 d1 d3 hws m1 m3
  rintro W9 ⟨hw, hE4, k4, hE6, k6, hE8, k8⟩
  have HX4 := Lib.hid (And.intro hE4 k4)
  have HX6 := Lib.hid (And.intro hE6 k6)
  have HX8 := Lib.hid (And.intro hE8 k8)
  have HW9 := Lib.hid hw
  have d1 := fun i => (hw.cell (p := ⟨p + 1, i, none⟩) l1).trans (c1 i)
  have hws := hw.size
  have m1 : p + 1 < W9.heap.size := by omega
  clear hw hE4 k4 hE6 k6 hE8 k8 c1 c3
  go_cut [13] (fun v X => v = .int .i64 19 ∧ Below W9.heap.size W9 X)
  case first =>
    go_region_with (go_at_call 12; refine (HS2.out _ ?bel).mono ?_; (case bel => have hw := HW9.out; (repeat (first | with_reducible exact Below.refl _ _ | with_reducible assumption | with_reducible refine Below.alloc0 ?_ _ | with_reducible refine Below.ext0 ?_ _ | with_reducible refine Below.drew ?_ | with_reducible refine below_drewN ?_ _ | (with_reducible refine Below.setCell (hp := ?hp) ?_ _; case hp => (first | (simp; done) | (simp; omega)))))); rintro e w' ⟨rfl, hb⟩; obtain ⟨u, rfl⟩ := ext_of hb; clear hb)
    all_goals go_wp2_with fail
    all_goals go_meet
    all_goals exact ⟨rfl, by (repeat (first | with_reducible exact Below.refl _ _ | with_reducible assumption | with_reducible refine Below.alloc0 ?_ _ | with_reducible refine Below.ext0 ?_ _ | with_reducible refine Below.drew ?_ | with_reducible refine below_drewN ?_ _ | (with_reducible refine Below.setCell (hp := ?hp) ?_ _; case hp => (first | (simp; done) | (simp; omega)))))⟩
  case rest =>
  obtain ⟨Y, hY⟩ : ∃ Y, Y = wc := ⟨_, rfl⟩
  rw [← hY] at hcut ⊢
  obtain ⟨rfl, hy⟩ := hcut
  have hys := hy.size
  have HV : Hid (Below W.heap.size W Y ∧ Elems tPst Y Y.heap.size A4 saleX ∧ Bk Y b4 #[.int .i64 0, .slice A4 5 q4] 34 ∧ Elems tPst Y Y.heap.size A6 refundX ∧ Bk Y b6 #[.int .i64 0, .slice A6 5 q6] 34 ∧ Elems tPst Y Y.heap.size A8 resaleX ∧ Bk Y b8 #[.int .i64 0, .slice A8 3 q8] 34) := Lib.hid ⟨Below.trans0 HW9.out hy, HX4.out.1.keep hy hys, HX4.out.2.below hy, HX6.out.1.keep hy hys, HX6.out.2.below hy, HX8.out.1.keep hy hys, HX8.out.2.below hy⟩
  clear hY HX4 HX6 HX8 HW9 d1 m1 hws hy hys HS2 l1 l3
  go_upto_region 10 with (go_at_call 25; refine (posting_any _ _ _ _).mono ?_; rintro e w' ⟨rfl, hb⟩; (first | (obtain ⟨u, rfl⟩ := ext_more hb; clear hb) | (obtain ⟨u, rfl⟩ := ext_more_alloc hb; clear hb) | (obtain ⟨u, rfl⟩ := ext_of hb; clear hb)))
  have hbl : Below Y.heap.size Y (((ext Y u).alloc (.cells #[.int .i64 5, .string ⟨#[99, 97, 114, 100]⟩, .int .i64 (-1000), .int .i64 5, .string ⟨#[103, 105, 102, 116]⟩, .int .i64 (-210), .int .i64 2, .string ⟨#[]⟩, .int .i64 1000, .int .i64 1, .string ⟨#[]⟩, .int .i64 100, .int .i64 3, .string ⟨#[]⟩, .int .i64 110] 55)).alloc (.cells #[.int .i64 0, .slice (some ⟨(ext Y u).heap.size, 0, none⟩) 5 5] 34)) := by (repeat (first | with_reducible exact Below.refl _ _ | with_reducible assumption | with_reducible refine Below.alloc0 ?_ _ | with_reducible refine Below.ext0 ?_ _ | with_reducible refine Below.drew ?_ | with_reducible refine below_drewN ?_ _ | (with_reducible refine Below.setCell (hp := ?hp) ?_ _; case hp => (first | (simp; done) | (simp; omega)))))
  have hbs := hbl.size
  refine forget (fun X => Below Y.heap.size Y X ∧ Bk X (ext Y u).heap.size #[.int .i64 5, .string ⟨#[99, 97, 114, 100]⟩, .int .i64 (-1000), .int .i64 5, .string ⟨#[103, 105, 102, 116]⟩, .int .i64 (-210), .int .i64 2, .string ⟨#[]⟩, .int .i64 1000, .int .i64 1, .string ⟨#[]⟩, .int .i64 100, .int .i64 3, .string ⟨#[]⟩, .int .i64 110] 55 ∧ Bk X ((ext Y u).heap.size + 1) #[.int .i64 0, .slice (some ⟨(ext Y u).heap.size, 0, none⟩) 5 5] 34) ⟨hbl, (Bk.new _ _ _).alloc _, bk_new_at _ _ _ _ (by simp)⟩ ?_
  generalize (ext Y u).heap.size = g4 at *
  clear hbl hbs
  rintro Y4 ⟨hw, k0, k1⟩
  have HBL := Lib.hid hw
  have e4 : Elems tPst Y4 Y4.heap.size (some ⟨g4, 0, none⟩) saleX := elems_pst _ _ _ k0 (by intro p hp; simp only [saleX, List.mem_cons, List.not_mem_nil, or_false] at hp; rcases hp with rfl | rfl | rfl | rfl | rfl <;> exact ⟨HFi.out _ (by decide) (by decide), by first | exact len_card | exact len_gift | exact len_no | exact len_ann, HFi.out _ (by decide) (by decide)⟩) k0.lt
  have HB4 := Lib.hid (And.intro e4 k1)
  clear hw k0 k1 e4 
  go_upto_region 11 with (go_at_call 25; refine (posting_any _ _ _ _).mono ?_; rintro e w' ⟨rfl, hb⟩; (first | (obtain ⟨u, rfl⟩ := ext_more hb; clear hb) | (obtain ⟨u, rfl⟩ := ext_more_alloc hb; clear hb) | (obtain ⟨u, rfl⟩ := ext_of hb; clear hb)))
  have hbl : Below Y4.heap.size Y4 (((ext Y4 u).alloc (.cells #[.int .i64 5, .string ⟨#[99, 97, 114, 100]⟩, .int .i64 500, .int .i64 5, .string ⟨#[103, 105, 102, 116]⟩, .int .i64 105, .int .i64 2, .string ⟨#[]⟩, .int .i64 (-500), .int .i64 1, .string ⟨#[]⟩, .int .i64 (-50), .int .i64 3, .string ⟨#[]⟩, .int .i64 (-55)] 55)).alloc (.cells #[.int .i64 0, .slice (some ⟨(ext Y4 u).heap.size, 0, none⟩) 5 5] 34)) := by (repeat (first | with_reducible exact Below.refl _ _ | with_reducible assumption | with_reducible refine Below.alloc0 ?_ _ | with_reducible refine Below.ext0 ?_ _ | with_reducible refine Below.drew ?_ | with_reducible refine below_drewN ?_ _ | (with_reducible refine Below.setCell (hp := ?hp) ?_ _; case hp => (first | (simp; done) | (simp; omega)))))
  have hbs := hbl.size
  refine forget (fun X => Below Y.heap.size Y X ∧ Elems tPst X X.heap.size (some ⟨g4, 0, none⟩) saleX ∧ Bk X (g4 + 1) #[.int .i64 0, .slice (some ⟨g4, 0, none⟩) 5 5] 34 ∧ Bk X (ext Y4 u).heap.size #[.int .i64 5, .string ⟨#[99, 97, 114, 100]⟩, .int .i64 500, .int .i64 5, .string ⟨#[103, 105, 102, 116]⟩, .int .i64 105, .int .i64 2, .string ⟨#[]⟩, .int .i64 (-500), .int .i64 1, .string ⟨#[]⟩, .int .i64 (-50), .int .i64 3, .string ⟨#[]⟩, .int .i64 (-55)] 55 ∧ Bk X ((ext Y4 u).heap.size + 1) #[.int .i64 0, .slice (some ⟨(ext Y4 u).heap.size, 0, none⟩) 5 5] 34) ⟨Below.trans0 HBL.out hbl, (HB4.out.1.keep hbl hbs), (HB4.out.2.below hbl), (Bk.new _ _ _).alloc _, bk_new_at _ _ _ _ (by simp)⟩ ?_
  generalize (ext Y4 u).heap.size = g6 at *
  clear hbl hbs HBL HB4
  rintro Y6 ⟨hw, e4, f4, k0, k1⟩
  have HBL := Lib.hid hw
  have HB4 := Lib.hid (And.intro e4 f4)
  have e6 : Elems tPst Y6 Y6.heap.size (some ⟨g6, 0, none⟩) refundX := elems_pst _ _ _ k0 (by intro p hp; simp only [refundX, List.mem_cons, List.not_mem_nil, or_false] at hp; rcases hp with rfl | rfl | rfl | rfl | rfl <;> exact ⟨HFi.out _ (by decide) (by decide), by first | exact len_card | exact len_gift | exact len_no | exact len_ann, HFi.out _ (by decide) (by decide)⟩) k0.lt
  have HB6 := Lib.hid (And.intro e6 k1)
  clear hw k0 k1 e6 e4 f4
  go_upto_region 12 with (go_at_call 25; refine (posting_any _ _ _ _).mono ?_; rintro e w' ⟨rfl, hb⟩; (first | (obtain ⟨u, rfl⟩ := ext_more hb; clear hb) | (obtain ⟨u, rfl⟩ := ext_more_alloc hb; clear hb) | (obtain ⟨u, rfl⟩ := ext_of hb; clear hb)))
  have hbl : Below Y6.heap.size Y6 (((ext Y6 u).alloc (.cells #[.int .i64 5, .string ⟨#[99, 97, 114, 100]⟩, .int .i64 (-1100), .int .i64 2, .string ⟨#[]⟩, .int .i64 110, .int .i64 6, .string ⟨#[97, 110, 110]⟩, .int .i64 990] 55)).alloc (.cells #[.int .i64 0, .slice (some ⟨(ext Y6 u).heap.size, 0, none⟩) 3 3] 34)) := by (repeat (first | with_reducible exact Below.refl _ _ | with_reducible assumption | with_reducible refine Below.alloc0 ?_ _ | with_reducible refine Below.ext0 ?_ _ | with_reducible refine Below.drew ?_ | with_reducible refine below_drewN ?_ _ | (with_reducible refine Below.setCell (hp := ?hp) ?_ _; case hp => (first | (simp; done) | (simp; omega)))))
  have hbs := hbl.size
  refine forget (fun X => Below Y.heap.size Y X ∧ Elems tPst X X.heap.size (some ⟨g4, 0, none⟩) saleX ∧ Bk X (g4 + 1) #[.int .i64 0, .slice (some ⟨g4, 0, none⟩) 5 5] 34 ∧ Elems tPst X X.heap.size (some ⟨g6, 0, none⟩) refundX ∧ Bk X (g6 + 1) #[.int .i64 0, .slice (some ⟨g6, 0, none⟩) 5 5] 34 ∧ Bk X (ext Y6 u).heap.size #[.int .i64 5, .string ⟨#[99, 97, 114, 100]⟩, .int .i64 (-1100), .int .i64 2, .string ⟨#[]⟩, .int .i64 110, .int .i64 6, .string ⟨#[97, 110, 110]⟩, .int .i64 990] 55 ∧ Bk X ((ext Y6 u).heap.size + 1) #[.int .i64 0, .slice (some ⟨(ext Y6 u).heap.size, 0, none⟩) 3 3] 34) ⟨Below.trans0 HBL.out hbl, (HB4.out.1.keep hbl hbs), (HB4.out.2.below hbl), (HB6.out.1.keep hbl hbs), (HB6.out.2.below hbl), (Bk.new _ _ _).alloc _, bk_new_at _ _ _ _ (by simp)⟩ ?_
  generalize (ext Y6 u).heap.size = g8 at *
  clear hbl hbs HBL HB4 HB6
  rintro Y8 ⟨hw, e4, f4, e6, f6, k0, k1⟩
  have HBL := Lib.hid hw
  have HB4 := Lib.hid (And.intro e4 f4)
  have HB6 := Lib.hid (And.intro e6 f6)
  have e8 : Elems tPst Y8 Y8.heap.size (some ⟨g8, 0, none⟩) resaleX := elems_pst _ _ _ k0 (by intro p hp; simp only [resaleX, List.mem_cons, List.not_mem_nil, or_false] at hp; rcases hp with rfl | rfl | rfl <;> exact ⟨HFi.out _ (by decide) (by decide), by first | exact len_card | exact len_gift | exact len_no | exact len_ann, HFi.out _ (by decide) (by decide)⟩) k0.lt
  have HB8 := Lib.hid (And.intro e8 k1)
  clear hw k0 k1 e8 e4 f4 e6 f6
  have hw := HBL.out
  have hws := hw.size
  have HV2 : Hid (Below W.heap.size W Y8 ∧ Elems tPst Y8 Y8.heap.size A4 saleX ∧ Elems tPst Y8 Y8.heap.size A6 refundX ∧ Elems tPst Y8 Y8.heap.size A8 resaleX) := Lib.hid ⟨Below.trans0 HV.out.1 hw, HV.out.2.1.keep hw hws, HV.out.2.2.2.1.keep hw hws, HV.out.2.2.2.2.2.1.keep hw hws⟩
  have k4 := HV.out.2.2.1.below hw
  have k6 := HV.out.2.2.2.2.1.below hw
  have k8 := HV.out.2.2.2.2.2.2.below hw
  have c4 := k4.cell
  have l4 := k4.lt
  have d4 := HB4.out.2.cell
  have m4 := HB4.out.2.lt
  have c6 := k6.cell
  have l6 := k6.lt
  have d6 := HB6.out.2.cell
  have m6 := HB6.out.2.lt
  have c8 := k8.cell
  have l8 := k8.lt
  have d8 := HB8.out.2.cell
  have m8 := HB8.out.2.lt
  clear hw hws k4 k6 k8 HV HBL
  have s1 := Lib.hid (same_in HV2.out.2.1 HB4.out.1 (Nat.le_refl _) (n1 := 5) rfl (n2 := 5) rfl (by decide) (by decide) q4 5)
  have s2 := Lib.hid (same_in HV2.out.2.2.1 HB6.out.1 (Nat.le_refl _) (n1 := 5) rfl (n2 := 5) rfl (by decide) (by decide) q6 5)
  have s3 := Lib.hid (same_in HV2.out.2.2.2 HB8.out.1 (Nat.le_refl _) (n1 := 3) rfl (n2 := 3) rfl (by decide) (by decide) q8 3)
  go_wp2_with (go_at_call 18; (first | (with_reducible refine Calls.mono (s1.out _ ?bel) ?_; (case bel => (repeat (first | with_reducible exact Below.refl _ _ | with_reducible assumption | with_reducible refine Below.alloc0 ?_ _ | with_reducible refine Below.ext0 ?_ _ | with_reducible refine Below.drew ?_ | with_reducible refine below_drewN ?_ _ | (with_reducible refine Below.setCell (hp := ?hp) ?_ _; case hp => (first | (simp; done) | (simp; omega))))))) | (with_reducible refine Calls.mono (s2.out _ ?bel) ?_; (case bel => (repeat (first | with_reducible exact Below.refl _ _ | with_reducible assumption | with_reducible refine Below.alloc0 ?_ _ | with_reducible refine Below.ext0 ?_ _ | with_reducible refine Below.drew ?_ | with_reducible refine below_drewN ?_ _ | (with_reducible refine Below.setCell (hp := ?hp) ?_ _; case hp => (first | (simp; done) | (simp; omega))))))) | (with_reducible refine Calls.mono (s3.out _ ?bel) ?_; (case bel => (repeat (first | with_reducible exact Below.refl _ _ | with_reducible assumption | with_reducible refine Below.alloc0 ?_ _ | with_reducible refine Below.ext0 ?_ _ | with_reducible refine Below.drew ?_ | with_reducible refine below_drewN ?_ _ | (with_reducible refine Below.setCell (hp := ?hp) ?_ _; case hp => (first | (simp; done) | (simp; omega)))))))); rintro e w' ⟨rfl, hb⟩; (first | (obtain ⟨u, rfl⟩ := ext_more hb; clear hb) | (obtain ⟨u, rfl⟩ := ext_more_alloc hb; clear hb) | (obtain ⟨u, rfl⟩ := ext_of hb; clear hb)))
  go_ret
  subst hp
  exact ⟨rfl, by have hw := Below.trans0 HW.out.1 HV2.out.1; (repeat (first | with_reducible exact Below.refl _ _ | with_reducible assumption | with_reducible refine Below.alloc0 ?_ _ | with_reducible refine Below.ext0 ?_ _ | with_reducible refine Below.drew ?_ | with_reducible refine below_drewN ?_ _ | (with_reducible refine Below.setCell (hp := ?hp) ?_ _; case hp => (first | (simp; done) | (simp; omega)))))⟩
end Go.Proofs.Ytggmihnhdojepaa
