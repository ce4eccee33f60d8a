/- Layer 13 (decide): the judge, its methods. -/
import Derived.Test.YtmklcfmdcfbpeaaDecD
import Derived.Test.YtmklcfmdcfbpeaaFun
import Derived.BigRegion
namespace Go.Proofs.Ytmklcfmdcfbpeaa
open Go.RowKit
set_option linter.unusedVariables false
set_option linter.unusedSimpArgs false
attribute [local go_sem] ext_cell ext_frozen lt_ext ext_drew

/-- What a judge has noted. -/
structure JS where
  tg : Bool
  si : Bool
  lim : Int
  price : Int
  fn : Int
  fd : Int
  tn : Int
  td : Int
  cn : Int
  cd : Int
  sn : Int
  sd : Int
  rn : Int
  rd : Int
  pr : Bool
  so : Bool
  ba : Bool
  al : Int
  de : Int
def jcs (s : JS) : Array Value := #[.bool false, .bool s.tg, .bool s.si, .int .i64 s.lim, .int .i64 s.price, .int .i64 s.fn, .int .i64 s.fd, .int .i64 s.tn, .int .i64 s.td, .int .i64 s.cn, .int .i64 s.cd, .int .i64 s.sn, .int .i64 s.sd, .int .i64 s.rn, .int .i64 s.rd, .int .i64 0, .bool s.pr, .bool s.so, .bool s.ba, .int .i64 s.al, .int .i64 s.de]
def permitJ (s : JS) (i n : Int) : JS := { s with al := if s.al < 0 then i else s.al, lim := if 0 < n ∧ (s.lim = 0 ∨ n < s.lim) then n else s.lim }
def forbidJ (s : JS) (i : Int) : JS := { s with de := if s.de < 0 then i else s.de }
def priceJ (s : JS) (n rn rd sn sd : Int) : JS := if s.pr then s else { s with pr := true, price := n, fn := rn, fd := rd, tn := sn, td := sd }
def resellJ (s : JS) (rn rd sn sd : Int) : JS := if s.so then s else { s with so := true, cn := rn, cd := rd, sn := sn, sd := sd }
def refundJ (s : JS) (rn rd : Int) : JS := if s.ba then s else { s with ba := true, rn := rn, rd := rd }

/-- What a note does to the judge's block. -/
def Noted (w : World) (jb : Nat) (s' : JS) (e : Ending) (w' : World) : Prop := e = .returned (.tuple #[]) ∧ Bk w' jb (jcs s') 58 ∧ Only (fun g => g = jb) w w'

section
variable (kd : Int) (nm : ByteArray) (A : Option Addr) (n cap : Nat) (num rn rd sn sd i : Int) (w : World) (jb : Nat) (s : JS)
set_option maxHeartbeats 1000000 in
theorem forbid_any (h : Bk w jb (jcs s) 58) :
    Calls Try.prog 31 #[.pointer (some ⟨jb, 0, none⟩), .int .i64 i, .agg #[.int .i64 kd, .string nm, .slice A n cap, .int .i64 num, .int .i64 rn, .int .i64 rd, .int .i64 sn, .int .i64 sd]] w (Noted w jb (forbidJ s i)) := by
  obtain ⟨tg, si, lim, price, fn, fd, tn, td, cn, cd, sn', sd', rn', rd', pr, so, ba, al, de⟩ := s
  have c20 : w.cell? ⟨jb, 20, none⟩ = some (.int .i64 de) := h.cell 20
  have f20 := h.free 20
  have lj := h.lt
  have H := Lib.hid h
  clear h
  by_cases h0 : de < 0
  · go_enter Try.func31, Try.ntmps31
    go_wp2_with fail
    go_end0
    refine ⟨rfl, ?_, by (repeat (first | with_reducible exact Only.refl _ _ | with_reducible assumption | with_reducible refine Only.alloc ?_ _ | with_reducible refine Only.ext0 ?_ _ | with_reducible refine Only.drew ?_ | with_reducible refine Only.drewN ?_ _ | (with_reducible refine Only.set_ (hp := ?hp) ?_ _; case hp => (first | (left; rfl) | (left; left; rfl) | (right; simp; done) | (right; simp; omega) | (left; simp; done) | (left; simp [*]; done)))))⟩
    have e : forbidJ ⟨tg, si, lim, price, fn, fd, tn, td, cn, cd, sn', sd', rn', rd', pr, so, ba, al, de⟩ i = ⟨tg, si, lim, price, fn, fd, tn, td, cn, cd, sn', sd', rn', rd', pr, so, ba, al, i⟩ := by unfold forbidJ; simp [h0]
    rw [e]
    first | exact (H.out.alloc _).set_ 20 _ | exact (H.out.set_ 20 _).alloc _
  · have h0' : 0 ≤ de := by omega
    go_enter Try.func31, Try.ntmps31
    go_wp2_with fail
    go_end0
    refine ⟨rfl, ?_, by (repeat (first | with_reducible exact Only.refl _ _ | with_reducible assumption | with_reducible refine Only.alloc ?_ _ | with_reducible refine Only.ext0 ?_ _ | with_reducible refine Only.drew ?_ | with_reducible refine Only.drewN ?_ _ | (with_reducible refine Only.set_ (hp := ?hp) ?_ _; case hp => (first | (left; rfl) | (left; left; rfl) | (right; simp; done) | (right; simp; omega) | (left; simp; done) | (left; simp [*]; done)))))⟩
    have e : forbidJ ⟨tg, si, lim, price, fn, fd, tn, td, cn, cd, sn', sd', rn', rd', pr, so, ba, al, de⟩ i = ⟨tg, si, lim, price, fn, fd, tn, td, cn, cd, sn', sd', rn', rd', pr, so, ba, al, de⟩ := by unfold forbidJ; simp only; rw [if_neg (by omega)]
    rw [e]
    exact H.out.alloc _
set_option maxHeartbeats 1000000 in
theorem together_any (vb : Nat) (h : Bk w jb (jcs s) 58) (hv : Bk w vb #[.pointer (some ⟨jb, 0, none⟩)] 56) :
    Calls Try.prog 35 #[.int .i64 i, .agg #[.int .i64 kd, .string nm, .slice A n cap, .int .i64 num, .int .i64 rn, .int .i64 rd, .int .i64 sn, .int .i64 sd], .pointer (some ⟨vb, 0, none⟩)] w (Noted w jb { s with tg := true }) := by
  obtain ⟨tg, si, lim, price, fn, fd, tn, td, cn, cd, sn', sd', rn', rd', pr, so, ba, al, de⟩ := s
  have c1 : w.cell? ⟨jb, 1, none⟩ = some (.bool tg) := h.cell 1
  have f1 := h.free 1
  have lj := h.lt
  have cv : w.cell? ⟨vb, 0, none⟩ = some (.pointer (some ⟨jb, 0, none⟩)) := hv.cell 0
  have lv := hv.lt
  have H := Lib.hid h
  clear h hv
  go_enter Try.func35, Try.ntmps35
  go_wp2_with fail
  go_end0
  refine ⟨rfl, ?_, by (repeat (first | with_reducible exact Only.refl _ _ | with_reducible assumption | with_reducible refine Only.alloc ?_ _ | with_reducible refine Only.ext0 ?_ _ | with_reducible refine Only.drew ?_ | with_reducible refine Only.drewN ?_ _ | (with_reducible refine Only.set_ (hp := ?hp) ?_ _; case hp => (first | (left; rfl) | (left; left; rfl) | (right; simp; done) | (right; simp; omega) | (left; simp; done) | (left; simp [*]; done)))))⟩
  first | exact (H.out.alloc _).set_ 1 _ | exact (H.out.set_ 1 _).alloc _
set_option maxHeartbeats 1000000 in
theorem single_any (vb : Nat) (h : Bk w jb (jcs s) 58) (hv : Bk w vb #[.pointer (some ⟨jb, 0, none⟩)] 56) :
    Calls Try.prog 36 #[.int .i64 i, .agg #[.int .i64 kd, .string nm, .slice A n cap, .int .i64 num, .int .i64 rn, .int .i64 rd, .int .i64 sn, .int .i64 sd], .pointer (some ⟨vb, 0, none⟩)] w (Noted w jb { s with si := true }) := by
  obtain ⟨tg, si, lim, price, fn, fd, tn, td, cn, cd, sn', sd', rn', rd', pr, so, ba, al, de⟩ := s
  have c1 : w.cell? ⟨jb, 2, none⟩ = some (.bool si) := h.cell 2
  have f1 := h.free 2
  have lj := h.lt
  have cv : w.cell? ⟨vb, 0, none⟩ = some (.pointer (some ⟨jb, 0, none⟩)) := hv.cell 0
  have lv := hv.lt
  have H := Lib.hid h
  clear h hv
  go_enter Try.func36, Try.ntmps36
  go_wp2_with fail
  go_end0
  refine ⟨rfl, ?_, by (repeat (first | with_reducible exact Only.refl _ _ | with_reducible assumption | with_reducible refine Only.alloc ?_ _ | with_reducible refine Only.ext0 ?_ _ | with_reducible refine Only.drew ?_ | with_reducible refine Only.drewN ?_ _ | (with_reducible refine Only.set_ (hp := ?hp) ?_ _; case hp => (first | (left; rfl) | (left; left; rfl) | (right; simp; done) | (right; simp; omega) | (left; simp; done) | (left; simp [*]; done)))))⟩
  first | exact (H.out.alloc _).set_ 2 _ | exact (H.out.set_ 2 _).alloc _

set_option maxHeartbeats 2000000 in
theorem refund_any (h : Bk w jb (jcs s) 58) :
    Calls Try.prog 34 #[.pointer (some ⟨jb, 0, none⟩), .int .i64 i, .agg #[.int .i64 kd, .string nm, .slice A n cap, .int .i64 num, .int .i64 rn, .int .i64 rd, .int .i64 sn, .int .i64 sd]] w (Noted w jb (refundJ s rn rd)) := by
  obtain ⟨tg, si, lim, price, fn, fd, tn, td, cn, cd, sn', sd', rn', rd', pr, so, ba, al, de⟩ := s
  have cF : w.cell? ⟨jb, 18, none⟩ = some (.bool ba) := h.cell 18
  have lj := h.lt
  have H := Lib.hid h
  clear h
  cases ba
  · go_enter Try.func34, Try.ntmps34
    go_upto_region 2 with (fail)
    refine forget (fun W => Only (fun g => g = jb) w W ∧ Bk W jb (jcs ⟨tg, si, lim, price, fn, fd, tn, td, cn, cd, sn', sd', rn', rd', pr, so, false, al, de⟩) 58 ∧ Bk W w.heap.size #[.int .i64 kd, .string nm, .slice A n cap, .int .i64 num, .int .i64 rn, .int .i64 rd, .int .i64 sn, .int .i64 sd] 34) ⟨by (repeat (first | with_reducible exact Only.refl _ _ | with_reducible assumption | with_reducible refine Only.alloc ?_ _ | with_reducible refine Only.ext0 ?_ _ | with_reducible refine Only.drew ?_ | with_reducible refine Only.drewN ?_ _ | (with_reducible refine Only.set_ (hp := ?hp) ?_ _; case hp => (first | (left; rfl) | (left; left; rfl) | (right; simp; done) | (right; simp; omega) | (left; simp; done) | (left; simp [*]; done))))), H.out.alloc _, Bk.new _ _ _⟩ ?_
    clear cF
    rintro W ⟨ho, bj, bp⟩
    have c18 : W.cell? ⟨jb, 18, none⟩ = some (.bool false) := bj.cell 18
    have f18 := bj.free 18
    have c13 : W.cell? ⟨jb, 13, none⟩ = some (.int .i64 rn') := bj.cell 13
    have f13 := bj.free 13
    have c14 : W.cell? ⟨jb, 14, none⟩ = some (.int .i64 rd') := bj.cell 14
    have f14 := bj.free 14
    have d4 : W.cell? ⟨w.heap.size, 4, none⟩ = some (.int .i64 rn) := bp.cell 4
    have d5 : W.cell? ⟨w.heap.size, 5, none⟩ = some (.int .i64 rd) := bp.cell 5
    have hne : jb ≠ w.heap.size := by omega
    have hne' : w.heap.size ≠ jb := by omega
    have lp := bp.lt
    have ljW := bj.lt
    have HW := Lib.hid (And.intro ho bj)
    clear ho bj bp H
    generalize hg : w.heap.size = g at *
    have Hg := Lib.hid hg
    clear hg
    go_region
    all_goals go_wp2_with fail
    all_goals go_end0
    all_goals refine ⟨rfl, ?_, ?_⟩
    all_goals first
      | exact (((HW.out.2.set_ 18 _).set_ 13 _).set_ 14 _).drew
      | (show Only _ _ _; have ho := HW.out.1; (repeat (first | with_reducible exact Only.refl _ _ | with_reducible assumption | with_reducible refine Only.alloc ?_ _ | with_reducible refine Only.ext0 ?_ _ | with_reducible refine Only.drew ?_ | with_reducible refine Only.drewN ?_ _ | (with_reducible refine Only.set_ (hp := ?hp) ?_ _; case hp => (first | (left; rfl) | (left; left; rfl) | (right; simp; done) | (right; simp; omega) | (left; simp; done) | (left; simp [*]; done))))); done)
      | skip
  · go_enter Try.func34, Try.ntmps34
    go_wp2_with fail
    go_end0
    exact ⟨rfl, H.out.alloc _, by (repeat (first | with_reducible exact Only.refl _ _ | with_reducible assumption | with_reducible refine Only.alloc ?_ _ | with_reducible refine Only.ext0 ?_ _ | with_reducible refine Only.drew ?_ | with_reducible refine Only.drewN ?_ _ | (with_reducible refine Only.set_ (hp := ?hp) ?_ _; case hp => (first | (left; rfl) | (left; left; rfl) | (right; simp; done) | (right; simp; omega) | (left; simp; done) | (left; simp [*]; done)))))⟩
set_option maxHeartbeats 2000000 in
theorem resell_any (h : Bk w jb (jcs s) 58) :
    Calls Try.prog 33 #[.pointer (some ⟨jb, 0, none⟩), .int .i64 i, .agg #[.int .i64 kd, .string nm, .slice A n cap, .int .i64 num, .int .i64 rn, .int .i64 rd, .int .i64 sn, .int .i64 sd]] w (Noted w jb (resellJ s rn rd sn sd)) := by
  obtain ⟨tg, si, lim, price, fn, fd, tn, td, cn, cd, sn', sd', rn', rd', pr, so, ba, al, de⟩ := s
  have cF : w.cell? ⟨jb, 17, none⟩ = some (.bool so) := h.cell 17
  have lj := h.lt
  have H := Lib.hid h
  clear h
  cases so
  · go_enter Try.func33, Try.ntmps33
    go_upto_region 2 with (fail)
    refine forget (fun W => Only (fun g => g = jb) w W ∧ Bk W jb (jcs ⟨tg, si, lim, price, fn, fd, tn, td, cn, cd, sn', sd', rn', rd', pr, false, ba, al, de⟩) 58 ∧ Bk W w.heap.size #[.int .i64 kd, .string nm, .slice A n cap, .int .i64 num, .int .i64 rn, .int .i64 rd, .int .i64 sn, .int .i64 sd] 34) ⟨by (repeat (first | with_reducible exact Only.refl _ _ | with_reducible assumption | with_reducible refine Only.alloc ?_ _ | with_reducible refine Only.ext0 ?_ _ | with_reducible refine Only.drew ?_ | with_reducible refine Only.drewN ?_ _ | (with_reducible refine Only.set_ (hp := ?hp) ?_ _; case hp => (first | (left; rfl) | (left; left; rfl) | (right; simp; done) | (right; simp; omega) | (left; simp; done) | (left; simp [*]; done))))), H.out.alloc _, Bk.new _ _ _⟩ ?_
    clear cF
    rintro W ⟨ho, bj, bp⟩
    have c17 : W.cell? ⟨jb, 17, none⟩ = some (.bool false) := bj.cell 17
    have f17 := bj.free 17
    have c9 : W.cell? ⟨jb, 9, none⟩ = some (.int .i64 cn) := bj.cell 9
    have f9 := bj.free 9
    have c10 : W.cell? ⟨jb, 10, none⟩ = some (.int .i64 cd) := bj.cell 10
    have f10 := bj.free 10
    have c11 : W.cell? ⟨jb, 11, none⟩ = some (.int .i64 sn') := bj.cell 11
    have f11 := bj.free 11
    have c12 : W.cell? ⟨jb, 12, none⟩ = some (.int .i64 sd') := bj.cell 12
    have f12 := bj.free 12
    have d4 : W.cell? ⟨w.heap.size, 4, none⟩ = some (.int .i64 rn) := bp.cell 4
    have d5 : W.cell? ⟨w.heap.size, 5, none⟩ = some (.int .i64 rd) := bp.cell 5
    have d6 : W.cell? ⟨w.heap.size, 6, none⟩ = some (.int .i64 sn) := bp.cell 6
    have d7 : W.cell? ⟨w.heap.size, 7, none⟩ = some (.int .i64 sd) := bp.cell 7
    have hne : jb ≠ w.heap.size := by omega
    have hne' : w.heap.size ≠ jb := by omega
    have lp := bp.lt
    have ljW := bj.lt
    have HW := Lib.hid (And.intro ho bj)
    clear ho bj bp H
    generalize hg : w.heap.size = g at *
    have Hg := Lib.hid hg
    clear hg
    go_region
    all_goals go_wp2_with fail
    all_goals go_end0
    all_goals refine ⟨rfl, ?_, ?_⟩
    all_goals first
      | exact (((((HW.out.2.set_ 17 _).set_ 9 _).set_ 10 _).set_ 11 _).set_ 12 _).drew
      | (show Only _ _ _; have ho := HW.out.1; (repeat (first | with_reducible exact Only.refl _ _ | with_reducible assumption | with_reducible refine Only.alloc ?_ _ | with_reducible refine Only.ext0 ?_ _ | with_reducible refine Only.drew ?_ | with_reducible refine Only.drewN ?_ _ | (with_reducible refine Only.set_ (hp := ?hp) ?_ _; case hp => (first | (left; rfl) | (left; left; rfl) | (right; simp; done) | (right; simp; omega) | (left; simp; done) | (left; simp [*]; done))))); done)
      | skip
  · go_enter Try.func33, Try.ntmps33
    go_wp2_with fail
    go_end0
    exact ⟨rfl, H.out.alloc _, by (repeat (first | with_reducible exact Only.refl _ _ | with_reducible assumption | with_reducible refine Only.alloc ?_ _ | with_reducible refine Only.ext0 ?_ _ | with_reducible refine Only.drew ?_ | with_reducible refine Only.drewN ?_ _ | (with_reducible refine Only.set_ (hp := ?hp) ?_ _; case hp => (first | (left; rfl) | (left; left; rfl) | (right; simp; done) | (right; simp; omega) | (left; simp; done) | (left; simp [*]; done)))))⟩
set_option maxHeartbeats 2000000 in
theorem price_any (h : Bk w jb (jcs s) 58) :
    Calls Try.prog 32 #[.pointer (some ⟨jb, 0, none⟩), .int .i64 i, .agg #[.int .i64 kd, .string nm, .slice A n cap, .int .i64 num, .int .i64 rn, .int .i64 rd, .int .i64 sn, .int .i64 sd]] w (Noted w jb (priceJ s num rn rd sn sd)) := by
  obtain ⟨tg, si, lim, price, fn, fd, tn, td, cn, cd, sn', sd', rn', rd', pr, so, ba, al, de⟩ := s
  have cF : w.cell? ⟨jb, 16, none⟩ = some (.bool pr) := h.cell 16
  have lj := h.lt
  have H := Lib.hid h
  clear h
  cases pr
  · go_enter Try.func32, Try.ntmps32
    go_upto_region 2 with (fail)
    refine forget (fun W => Only (fun g => g = jb) w W ∧ Bk W jb (jcs ⟨tg, si, lim, price, fn, fd, tn, td, cn, cd, sn', sd', rn', rd', false, so, ba, al, de⟩) 58 ∧ Bk W w.heap.size #[.int .i64 kd, .string nm, .slice A n cap, .int .i64 num, .int .i64 rn, .int .i64 rd, .int .i64 sn, .int .i64 sd] 34) ⟨by (repeat (first | with_reducible exact Only.refl _ _ | with_reducible assumption | with_reducible refine Only.alloc ?_ _ | with_reducible refine Only.ext0 ?_ _ | with_reducible refine Only.drew ?_ | with_reducible refine Only.drewN ?_ _ | (with_reducible refine Only.set_ (hp := ?hp) ?_ _; case hp => (first | (left; rfl) | (left; left; rfl) | (right; simp; done) | (right; simp; omega) | (left; simp; done) | (left; simp [*]; done))))), H.out.alloc _, Bk.new _ _ _⟩ ?_
    clear cF
    rintro W ⟨ho, bj, bp⟩
    have c16 : W.cell? ⟨jb, 16, none⟩ = some (.bool false) := bj.cell 16
    have f16 := bj.free 16
    have c4 : W.cell? ⟨jb, 4, none⟩ = some (.int .i64 price) := bj.cell 4
    have f4 := bj.free 4
    have c5 : W.cell? ⟨jb, 5, none⟩ = some (.int .i64 fn) := bj.cell 5
    have f5 := bj.free 5
    have c6 : W.cell? ⟨jb, 6, none⟩ = some (.int .i64 fd) := bj.cell 6
    have f6 := bj.free 6
    have c7 : W.cell? ⟨jb, 7, none⟩ = some (.int .i64 tn) := bj.cell 7
    have f7 := bj.free 7
    have c8 : W.cell? ⟨jb, 8, none⟩ = some (.int .i64 td) := bj.cell 8
    have f8 := bj.free 8
    have d3 : W.cell? ⟨w.heap.size, 3, none⟩ = some (.int .i64 num) := bp.cell 3
    have d4 : W.cell? ⟨w.heap.size, 4, none⟩ = some (.int .i64 rn) := bp.cell 4
    have d5 : W.cell? ⟨w.heap.size, 5, none⟩ = some (.int .i64 rd) := bp.cell 5
    have d6 : W.cell? ⟨w.heap.size, 6, none⟩ = some (.int .i64 sn) := bp.cell 6
    have d7 : W.cell? ⟨w.heap.size, 7, none⟩ = some (.int .i64 sd) := bp.cell 7
    have hne : jb ≠ w.heap.size := by omega
    have hne' : w.heap.size ≠ jb := by omega
    have lp := bp.lt
    have ljW := bj.lt
    have HW := Lib.hid (And.intro ho bj)
    clear ho bj bp H
    generalize hg : w.heap.size = g at *
    have Hg := Lib.hid hg
    clear hg
    go_region
    all_goals go_wp2_with fail
    all_goals go_end0
    all_goals refine ⟨rfl, ?_, ?_⟩
    all_goals first
      | exact ((((((HW.out.2.set_ 16 _).set_ 4 _).set_ 5 _).set_ 6 _).set_ 7 _).set_ 8 _).drew
      | (show Only _ _ _; have ho := HW.out.1; (repeat (first | with_reducible exact Only.refl _ _ | with_reducible assumption | with_reducible refine Only.alloc ?_ _ | with_reducible refine Only.ext0 ?_ _ | with_reducible refine Only.drew ?_ | with_reducible refine Only.drewN ?_ _ | (with_reducible refine Only.set_ (hp := ?hp) ?_ _; case hp => (first | (left; rfl) | (left; left; rfl) | (right; simp; done) | (right; simp; omega) | (left; simp; done) | (left; simp [*]; done))))); done)
      | skip
  · go_enter Try.func32, Try.ntmps32
    go_wp2_with fail
    go_end0
    exact ⟨rfl, H.out.alloc _, by (repeat (first | with_reducible exact Only.refl _ _ | with_reducible assumption | with_reducible refine Only.alloc ?_ _ | with_reducible refine Only.ext0 ?_ _ | with_reducible refine Only.drew ?_ | with_reducible refine Only.drewN ?_ _ | (with_reducible refine Only.set_ (hp := ?hp) ?_ _; case hp => (first | (left; rfl) | (left; left; rfl) | (right; simp; done) | (right; simp; omega) | (left; simp; done) | (left; simp [*]; done)))))⟩
set_option maxHeartbeats 2000000 in
theorem permit_any (h : Bk w jb (jcs s) 58) :
    Calls Try.prog 30 #[.pointer (some ⟨jb, 0, none⟩), .int .i64 i, .agg #[.int .i64 kd, .string nm, .slice A n cap, .int .i64 num, .int .i64 rn, .int .i64 rd, .int .i64 sn, .int .i64 sd]] w (Noted w jb (permitJ s i num)) := by
  obtain ⟨tg, si, lim, price, fn, fd, tn, td, cn, cd, sn', sd', rn', rd', pr, so, ba, al, de⟩ := s
  obtain ⟨al', hal⟩ : ∃ x, (if al < 0 then i else al) = x := ⟨_, rfl⟩
  obtain ⟨lim', hlim⟩ : ∃ x, (if 0 < num ∧ (lim = 0 ∨ num < lim) then num else lim) = x := ⟨_, rfl⟩
  have hR : permitJ ⟨tg, si, lim, price, fn, fd, tn, td, cn, cd, sn', sd', rn', rd', pr, so, ba, al, de⟩ i num = ⟨tg, si, lim', price, fn, fd, tn, td, cn, cd, sn', sd', rn', rd', pr, so, ba, al', de⟩ := by unfold permitJ; rw [← hal, ← hlim]
  rw [hR]
  have c19 : w.cell? ⟨jb, 19, none⟩ = some (.int .i64 al) := h.cell 19
  have f19 := h.free 19
  have lj := h.lt
  have H := Lib.hid h
  have Hal := Lib.hid hal
  have Hlim := Lib.hid hlim
  clear h hR hal hlim
  have main : ∀ (W : World), (Only (fun g => g = jb) w W ∧ Bk W jb (jcs ⟨tg, si, lim, price, fn, fd, tn, td, cn, cd, sn', sd', rn', rd', pr, so, ba, al', de⟩) 58 ∧ Bk W w.heap.size #[.int .i64 kd, .string nm, .slice A n cap, .int .i64 num, .int .i64 rn, .int .i64 rd, .int .i64 sn, .int .i64 sd] 34) →
      Hid (W.cell? ⟨jb, 3, none⟩ = some (.int .i64 lim) ∧ W.frozen? ⟨jb, 3, none⟩ = false ∧ W.cell? ⟨w.heap.size, 3, none⟩ = some (.int .i64 num) ∧ jb < W.heap.size ∧ w.heap.size < W.heap.size) := fun W ⟨_, bj, bp⟩ => ⟨bj.cell 3, bj.free 3, bp.cell 3, bj.lt, bp.lt⟩
  have Main := Lib.hid main
  clear main
  have hal' : (al < 0 ∧ al' = i) ∨ (0 ≤ al ∧ al' = al) := by
    have := Hal.out
    by_cases h0 : al < 0
    · rw [if_pos h0] at this; exact .inl ⟨h0, this.symm⟩
    · rw [if_neg h0] at this; exact .inr ⟨by omega, this.symm⟩
  have hcs : (decide (0 < num) = false) ∨ (decide (0 < num) = true ∧ decide (lim = 0) = true) ∨ (decide (0 < num) = true ∧ decide (lim = 0) = false ∧ decide (num < lim) = true) ∨ (decide (0 < num) = true ∧ decide (lim = 0) = false ∧ decide (num < lim) = false) := by
    by_cases h1 : 0 < num <;> by_cases h2 : lim = 0 <;> by_cases h3 : num < lim <;> simp [h1, h2, h3]
  clear Hal
  rcases hal' with ⟨h0, hq⟩ | ⟨h0, hq⟩
  all_goals
    have Hq := Lib.hid hq
    clear hq
    rcases hcs with h1 | ⟨h1, h2⟩ | ⟨h1, h2, h3⟩ | ⟨h1, h2, h3⟩
    all_goals
      first
        | (have h9 : (lim == 0) = true := by simpa using h2)
        | (have h9 : (lim == 0) = false := by simpa using h2)
        | skip
      go_enter Try.func30, Try.ntmps30
      go_upto_region 3 with (fail)
      refine forget (fun W => Only (fun g => g = jb) w W ∧ Bk W jb (jcs ⟨tg, si, lim, price, fn, fd, tn, td, cn, cd, sn', sd', rn', rd', pr, so, ba, al', de⟩) 58 ∧ Bk W w.heap.size #[.int .i64 kd, .string nm, .slice A n cap, .int .i64 num, .int .i64 rn, .int .i64 rd, .int .i64 sn, .int .i64 sd] 34) ⟨by (repeat (first | with_reducible exact Only.refl _ _ | with_reducible assumption | with_reducible refine Only.alloc ?_ _ | with_reducible refine Only.ext0 ?_ _ | with_reducible refine Only.drew ?_ | with_reducible refine Only.drewN ?_ _ | (with_reducible refine Only.set_ (hp := ?hp) ?_ _; case hp => (first | (left; rfl) | (left; left; rfl) | (right; simp; done) | (right; simp; omega) | (left; simp; done) | (left; simp [*]; done))))), by rw [Hq.out]; first | exact H.out.alloc _ | exact (H.out.set_ 19 _).alloc _, bk_new_at _ _ _ _ (by simp)⟩ ?_
      rintro W hF
      have hM := (Main.out W hF).out
      obtain ⟨e1, e2, e3, e4, e5⟩ := hM
      have HF := Lib.hid hF
      clear hF Main H c19 f19
      go_quiet (fail)
      go_wp2_with fail
      go_end0
      refine ⟨rfl, ?_, by have ho := HF.out.1; (repeat (first | with_reducible exact Only.refl _ _ | with_reducible assumption | with_reducible refine Only.alloc ?_ _ | with_reducible refine Only.ext0 ?_ _ | with_reducible refine Only.drew ?_ | with_reducible refine Only.drewN ?_ _ | (with_reducible refine Only.set_ (hp := ?hp) ?_ _; case hp => (first | (left; rfl) | (left; left; rfl) | (right; simp; done) | (right; simp; omega) | (left; simp; done) | (left; simp [*]; done)))))⟩
    · obtain rfl : lim' = lim := by rw [← Hlim.out, if_neg (by simp at h1; omega)]
      exact HF.out.2.1
    · obtain rfl : lim' = num := by rw [← Hlim.out, if_pos ⟨by simpa using h1, .inl (by simpa using h2)⟩]
      exact HF.out.2.1.set_ 3 _
    · obtain rfl : lim' = num := by rw [← Hlim.out, if_pos ⟨by simpa using h1, .inr (by simpa using h3)⟩]
      exact HF.out.2.1.set_ 3 _
    · obtain rfl : lim' = lim := by rw [← Hlim.out, if_neg (by simp at h1 h2 h3; omega)]
      exact HF.out.2.1
end
end Go.Proofs.Ytmklcfmdcfbpeaa
