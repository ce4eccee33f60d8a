/- Layer 12 (resolve): halls and rules in memory; the maps of a scope; the closure that enters a name. -/
import Derived.Test.YtecjhniomjmocaaResP
import Derived.Test.YtecjhniomjmocaaSized
import Derived.Test.YtecjhniomjmocaaStr
import Derived.Test.YtecjhniomjmocaaCopy
import Derived.Test.YtecjhniomjmocaaMid
import Derived.Test.YtecjhniomjmocaaRow
import Derived.Test.YtecjhniomjmocaaRows
import Derived.Outline
namespace Go.Proofs.Ytecjhniomjmocaa
open Go.RowKit
set_option linter.unusedVariables false
set_option linter.unusedSimpArgs false
attribute [local go_sem] ext_cell ext_frozen lt_ext ext_drew

/-- A slice of which only the header is looked at. -/
abbrev Hd := Option Addr × Nat × Nat
def tHead : Ty Hd where
  n := 1
  rd := fun _ _ cs x => cs = [.slice x.1 x.2.1 x.2.2]
  len := by rintro _ _ _ _ rfl; rfl
  keep := fun _ _ h => h
theorem opens_head {P : Program} {t e : TypeId} (ht : P.underlying t = some (.slice e)) (hc : P.cellsOf t = 1) : Opens P t tHead :=
  ⟨hc, fun H enc w spare held base fuel cs x h => by
    rcases Go.Deep.open_slice ht h with ⟨rfl, _⟩ | ⟨a, len, cap, m, n, D, Pl, rfl, _⟩
    · exact ⟨(none, 0, 0), rfl⟩
    · exact ⟨(some a, len, cap), rfl⟩⟩
abbrev Bl := ByteArray × Hd × Int
abbrev Bx := Int × Int × Int × Int
abbrev Ar := ByteArray × Bx × Int × Int
/-- Name, Height, Blocks, Areas, Aisles, Pillars, Doors, At. -/
abbrev Le := ByteArray × Int × List Bl × List Ar × Hd × Hd × Hd × Int
abbrev tBox : Ty Bx := tPair tInt (tPair tInt (tPair tInt tInt))
abbrev tBl : Ty Bl := tPair tStr2 (tPair tHead tInt)
abbrev tAr : Ty Ar := tPair tStr2 (tPair tBox (tPair tInt tInt))
abbrev tLe : Ty Le := tPair tStr2 (tPair tInt (tPair (tSliceB tBl) (tPair (tSliceB tAr) (tPair tHead (tPair tHead (tPair tHead tInt))))))
abbrev Ha := ByteArray × (Int × Int) × List Le
abbrev tHa : Ty Ha := tPair tStr2 (tPair (tPair tInt tInt) (tSlice tLe))
abbrev tTs : Ty Ts := tPair tStr2 (tPair tInt (tPair tStr2 (tPair tInt tInt)))
abbrev tIt : Ty It := tPair tInt (tPair tStr2 (tPair (tSlice (tSlice tTs)) (tPair tInt (tPair tRat (tPair tRat tInt)))))

theorem opensI : OpensZ Try.prog 3 tInt := Opens.z (opens_int Try.underlying3 (by kernel_rfl))
theorem opensS : OpensZ Try.prog 9 tStr2 := opensZ_str Try.underlying9 (by kernel_rfl)
theorem opensPoint : OpensZ Try.prog 26 (tPair tInt tInt) := opensZ_struct Try.underlying26 (by kernel_rfl) (.cons rfl opensI (.one rfl opensI))
theorem opensRat : OpensZ Try.prog 52 tRat := opensZ_struct Try.underlying52 (by kernel_rfl) (.cons rfl opensI (.one rfl opensI))
theorem opensBox : OpensZ Try.prog 75 tBox := opensZ_struct Try.underlying75 (by kernel_rfl) (.cons rfl opensI (.cons rfl opensI (.cons rfl opensI (.one rfl opensI))))
theorem opensBl : OpensZ Try.prog 73 tBl := opensZ_struct Try.underlying73 (by kernel_rfl) (.cons rfl opensS (.cons rfl (Opens.z <| opens_head Try.underlying71 (by kernel_rfl)) (.one rfl opensI)))
theorem opensAr : OpensZ Try.prog 77 tAr := opensZ_struct Try.underlying77 (by kernel_rfl) (.cons rfl opensS (.cons rfl opensBox (.cons rfl opensI (.one rfl opensI))))
theorem opensBls : OpensZ Try.prog 65 (tSliceB tBl) := opensZ_sliceB Try.underlying65 (by kernel_rfl) (by decide) (of_decide_eq_true (by kernel_rfl)) opensBl
theorem opensArs : OpensZ Try.prog 66 (tSliceB tAr) := opensZ_sliceB Try.underlying66 (by kernel_rfl) (by decide) (of_decide_eq_true (by kernel_rfl)) opensAr
theorem opensLe : OpensZ Try.prog 70 tLe := opensZ_struct Try.underlying70 (by kernel_rfl)
  (.cons rfl opensS (.cons rfl opensI (.cons rfl opensBls (.cons rfl opensArs (.cons rfl (Opens.z <| opens_head Try.underlying67 (by kernel_rfl)) (.cons rfl (Opens.z <| opens_head Try.underlying67 (by kernel_rfl)) (.cons rfl (Opens.z <| opens_head Try.underlying68 (by kernel_rfl)) (.one rfl opensI))))))))
theorem opensLes : OpensZ Try.prog 27 (tSlice tLe) := opensZ_slice Try.underlying27 (by kernel_rfl) (by decide) opensLe
theorem opensHa : OpensZ Try.prog 29 tHa := opensZ_struct Try.underlying29 (by kernel_rfl) (.cons rfl opensS (.cons rfl opensPoint (.one rfl opensLes)))
theorem opensTs : OpensZ Try.prog 64 tTs := opensZ_struct Try.underlying64 (by kernel_rfl) (.cons rfl opensS (.cons rfl opensI (.cons rfl opensS (.cons rfl opensI (.one rfl opensI)))))
theorem opensAnd : OpensZ Try.prog 62 (tSlice tTs) := opensZ_slice Try.underlying62 (by kernel_rfl) (by decide) opensTs
theorem opensWhen : OpensZ Try.prog 55 (tSlice (tSlice tTs)) := opensZ_slice Try.underlying55 (by kernel_rfl) (by decide) opensAnd
theorem opensIt : OpensZ Try.prog 57 tIt := opensZ_struct Try.underlying57 (by kernel_rfl)
  (.cons rfl opensI (.cons rfl opensS (.cons rfl opensWhen (.cons rfl opensI (.cons rfl opensRat (.cons rfl opensRat (.one rfl opensI)))))))
theorem opensIts : OpensZ Try.prog 22 (tSlice tIt) := opensZ_slice Try.underlying22 (by kernel_rfl) (by decide) opensIt
theorem opensRules : OpensZ Try.prog 24 (tSlice tIt) := opensZ_struct Try.underlying24 (by kernel_rfl) (.one rfl opensIts)

/-! ### picks -/
section
variable {w : World} {B : Nat} {A : Option Addr}
theorem pick_le {ls : List Le} (h : Elems tLe w B A ls) {k : Nat} (hk : k < ls.length) :
    ∃ b off nm ht AB bs cb AA ars ca h1 h2 h3 att, A = some ⟨b, off, none⟩ ∧ b < B ∧ Hid (ls[k]? = some (nm, ht, bs, ars, h1, h2, h3, att)) ∧
      w.cell? ⟨b, off + k * 8, none⟩ = some (.string nm) ∧ w.cell? ⟨b, off + k * 8 + 1, none⟩ = some (.int .i64 ht) ∧ w.cell? ⟨b, off + k * 8 + 2, none⟩ = some (.slice AB bs.length cb) ∧ w.cell? ⟨b, off + k * 8 + 3, none⟩ = some (.slice AA ars.length ca) ∧
      w.cell? ⟨b, off + k * 8 + 4, none⟩ = some (.slice h1.1 h1.2.1 h1.2.2) ∧ w.cell? ⟨b, off + k * 8 + 5, none⟩ = some (.slice h2.1 h2.2.1 h2.2.2) ∧ w.cell? ⟨b, off + k * 8 + 6, none⟩ = some (.slice h3.1 h3.2.1 h3.2.2) ∧ w.cell? ⟨b, off + k * 8 + 7, none⟩ = some (.int .i64 att) ∧
      nm.size ≤ 1125899906842624 ∧ bs.length ≤ 1125899906842624 ∧ ars.length ≤ 1125899906842624 ∧ Hid (Elems tBl w B AB bs) ∧ Hid (Elems tAr w B AA ars) := by
  obtain ⟨b, off, ⟨nm, ht, bs, ars, h1, h2, h3, att⟩, cs, hA, hb, _, hx, _, ⟨c1, r1, rfl, ⟨rfl, g1⟩, ⟨c2, r2, rfl, ⟨rfl, g2⟩, ⟨c3, r3, rfl, ⟨⟨AB, cb, rfl, g3, g4, g5⟩, k1⟩, ⟨c4, r4, rfl, ⟨⟨AA, ca, rfl, g6, g7, g8⟩, k2⟩, ⟨c5, r5, rfl, rfl, ⟨c6, r6, rfl, rfl, ⟨c7, r7, rfl, rfl, ⟨rfl, g9⟩⟩⟩⟩⟩⟩⟩⟩, hc⟩ := h.pick hk
  exact ⟨b, off, nm, ht, AB, bs, cb, AA, ars, ca, h1, h2, h3, att, hA, hb, hx, hc 0 _ rfl, hc 1 _ rfl, hc 2 _ rfl, hc 3 _ rfl, hc 4 _ rfl, hc 5 _ rfl, hc 6 _ rfl, hc 7 _ rfl, g1, k1, k2, g5, g8⟩
theorem pick_bl {ls : List Bl} (h : Elems tBl w B A ls) {k : Nat} (hk : k < ls.length) :
    ∃ b off nm h1 att, A = some ⟨b, off, none⟩ ∧ b < B ∧ Hid (ls[k]? = some (nm, h1, att)) ∧
      w.cell? ⟨b, off + k * 3, none⟩ = some (.string nm) ∧ w.cell? ⟨b, off + k * 3 + 1, none⟩ = some (.slice h1.1 h1.2.1 h1.2.2) ∧ w.cell? ⟨b, off + k * 3 + 2, none⟩ = some (.int .i64 att) ∧ nm.size ≤ 1125899906842624 := by
  obtain ⟨b, off, ⟨nm, h1, att⟩, cs, hA, hb, _, hx, _, ⟨c1, r1, rfl, ⟨rfl, g1⟩, ⟨c2, r2, rfl, rfl, ⟨rfl, g2⟩⟩⟩, hc⟩ := h.pick hk
  exact ⟨b, off, nm, h1, att, hA, hb, hx, hc 0 _ rfl, hc 1 _ rfl, hc 2 _ rfl, g1⟩
theorem pick_ar {ls : List Ar} (h : Elems tAr w B A ls) {k : Nat} (hk : k < ls.length) :
    ∃ b off nm x1 x2 x3 x4 hd att, A = some ⟨b, off, none⟩ ∧ b < B ∧ Hid (ls[k]? = some (nm, (x1, x2, x3, x4), hd, att)) ∧
      w.cell? ⟨b, off + k * 7, none⟩ = some (.string nm) ∧ w.cell? ⟨b, off + k * 7 + 1, none⟩ = some (.int .i64 x1) ∧ w.cell? ⟨b, off + k * 7 + 2, none⟩ = some (.int .i64 x2) ∧ w.cell? ⟨b, off + k * 7 + 3, none⟩ = some (.int .i64 x3) ∧ w.cell? ⟨b, off + k * 7 + 4, none⟩ = some (.int .i64 x4) ∧ w.cell? ⟨b, off + k * 7 + 5, none⟩ = some (.int .i64 hd) ∧ w.cell? ⟨b, off + k * 7 + 6, none⟩ = some (.int .i64 att) ∧ nm.size ≤ 1125899906842624 := by
  obtain ⟨b, off, ⟨nm, ⟨x1, x2, x3, x4⟩, hd, att⟩, cs, hA, hb, _, hx, _, ⟨c1, r1, rfl, ⟨rfl, g1⟩, ⟨c2, r2, rfl, ⟨d1, s1, rfl, ⟨rfl, _⟩, ⟨d2, s2, rfl, ⟨rfl, _⟩, ⟨d3, s3, rfl, ⟨rfl, _⟩, ⟨rfl, _⟩⟩⟩⟩, ⟨c3, r3, rfl, ⟨rfl, _⟩, ⟨rfl, _⟩⟩⟩⟩, hc⟩ := h.pick hk
  exact ⟨b, off, nm, x1, x2, x3, x4, hd, att, hA, hb, hx, hc 0 _ rfl, hc 1 _ rfl, hc 2 _ rfl, hc 3 _ rfl, hc 4 _ rfl, hc 5 _ rfl, hc 6 _ rfl, g1⟩
theorem pick_ts {ls : List Ts} (h : Elems tTs w B A ls) {k : Nat} (hk : k < ls.length) :
    ∃ b off nm op nn n att, A = some ⟨b, off, none⟩ ∧ b < B ∧ Hid (ls[k]? = some (nm, op, nn, n, att)) ∧
      w.cell? ⟨b, off + k * 5, none⟩ = some (.string nm) ∧ w.cell? ⟨b, off + k * 5 + 1, none⟩ = some (.int .i64 op) ∧ w.cell? ⟨b, off + k * 5 + 2, none⟩ = some (.string nn) ∧ w.cell? ⟨b, off + k * 5 + 3, none⟩ = some (.int .i64 n) ∧ w.cell? ⟨b, off + k * 5 + 4, none⟩ = some (.int .i64 att) ∧ nm.size ≤ 1125899906842624 ∧ nn.size ≤ 1125899906842624 ∧ fits op ∧ fits n ∧ fits att := by
  obtain ⟨b, off, ⟨nm, op, nn, n, att⟩, cs, hA, hb, _, hx, _, ⟨c1, r1, rfl, ⟨rfl, g1⟩, ⟨c2, r2, rfl, ⟨rfl, g2⟩, ⟨c3, r3, rfl, ⟨rfl, g3⟩, ⟨c4, r4, rfl, ⟨rfl, g4⟩, ⟨rfl, g5⟩⟩⟩⟩⟩, hc⟩ := h.pick hk
  exact ⟨b, off, nm, op, nn, n, att, hA, hb, hx, hc 0 _ rfl, hc 1 _ rfl, hc 2 _ rfl, hc 3 _ rfl, hc 4 _ rfl, g1, g3, g2, g4, g5⟩
theorem pick_and {ls : List (List Ts)} (h : Elems (tSlice tTs) w B A ls) {k : Nat} (hk : k < ls.length) :
    ∃ b off A1 l c1, A = some ⟨b, off, none⟩ ∧ b < B ∧ Hid (ls[k]? = some l) ∧ w.cell? ⟨b, off + k, none⟩ = some (.slice A1 l.length c1) ∧ l.length ≤ 9223372036854775807 ∧ Hid (Elems tTs w B A1 l) := by
  obtain ⟨b, off, l, cs, hA, hb, _, hx, _, ⟨A1, c1, rfl, g1, g2, g3⟩, hc⟩ := h.pick hk
  refine ⟨b, off, A1, l, c1, hA, hb, hx, ?_, by unfold maxLen at g2; omega, g3⟩
  have := hc 0 _ rfl
  have e : (tSlice tTs).n = 1 := rfl
  simpa [e] using this
theorem pick_it {ls : List It} (h : Elems tIt w B A ls) {k : Nat} (hk : k < ls.length) :
    ∃ b off kd nm AW ws cw n rn rd sn sd att, A = some ⟨b, off, none⟩ ∧ b < B ∧ Hid (ls[k]? = some (kd, nm, ws, n, (rn, rd), (sn, sd), att)) ∧
      w.cell? ⟨b, off + k * 9, none⟩ = some (.int .i64 kd) ∧ w.cell? ⟨b, off + k * 9 + 1, none⟩ = some (.string nm) ∧ w.cell? ⟨b, off + k * 9 + 2, none⟩ = some (.slice AW ws.length cw) ∧ w.cell? ⟨b, off + k * 9 + 3, none⟩ = some (.int .i64 n) ∧
      w.cell? ⟨b, off + k * 9 + 4, none⟩ = some (.int .i64 rn) ∧ w.cell? ⟨b, off + k * 9 + 5, none⟩ = some (.int .i64 rd) ∧ w.cell? ⟨b, off + k * 9 + 6, none⟩ = some (.int .i64 sn) ∧ w.cell? ⟨b, off + k * 9 + 7, none⟩ = some (.int .i64 sd) ∧ w.cell? ⟨b, off + k * 9 + 8, none⟩ = some (.int .i64 att) ∧
      nm.size ≤ 1125899906842624 ∧ ws.length ≤ 9223372036854775807 ∧ Hid (Elems (tSlice tTs) w B AW ws) ∧ fits kd ∧ fits n ∧ fits rn ∧ fits rd ∧ fits sn ∧ fits sd ∧ fits att ∧
      Hid (tIt.rd w B [.int .i64 kd, .string nm, .slice AW ws.length cw, .int .i64 n, .int .i64 rn, .int .i64 rd, .int .i64 sn, .int .i64 sd, .int .i64 att] (kd, nm, ws, n, (rn, rd), (sn, sd), att)) := by
  obtain ⟨b, off, ⟨kd, nm, ws, n, ⟨rn, rd⟩, ⟨sn, sd⟩, att⟩, cs, hA, hb, _, hx, _, hr, hc⟩ := h.pick hk
  have hr' := hr
  obtain ⟨c1, r1, rfl, ⟨rfl, h1⟩, ⟨c2, r2, rfl, ⟨rfl, h2⟩, ⟨c3, r3, rfl, ⟨AW, cw, rfl, h3, h4, h5⟩, ⟨c4, r4, rfl, ⟨rfl, h6⟩, ⟨c5, r5, rfl, ⟨a1, b1, rfl, ⟨rfl, f1⟩, ⟨rfl, f2⟩⟩, ⟨c6, r6, rfl, ⟨a2, b2, rfl, ⟨rfl, f3⟩, ⟨rfl, f4⟩⟩, ⟨rfl, f5⟩⟩⟩⟩⟩⟩⟩ := hr
  exact ⟨b, off, kd, nm, AW, ws, cw, n, rn, rd, sn, sd, att, hA, hb, hx, hc 0 _ rfl, hc 1 _ rfl, hc 2 _ rfl, hc 3 _ rfl, hc 4 _ rfl, hc 5 _ rfl, hc 6 _ rfl, hc 7 _ rfl, hc 8 _ rfl, h2, by have h3' : ws.length ≤ cw := h3; unfold maxLen at h4; omega, h5, h1, h6, f1, f2, f3, f4, f5, hr'⟩
end

/-! ### the names of a scope -/
def addE (l : List (ByteArray × Value)) (s : ByteArray) (n : Int) : List (ByteArray × Value) := if findS s l = none then l ++ [(s, .int .i64 n)] else l
theorem findS_app {k : ByteArray} : ∀ {l : List (ByteArray × Value)} {s : ByteArray} {v : Value}, findS s l = none → findS k (l ++ [(s, v)]) = if k = s then some v else findS k l
  | [], s, v, _ => rfl
  | p :: l, s, v, h => by
    show (if k = p.1 then some p.2 else findS k (l ++ [(s, v)])) = if k = s then some v else (if k = p.1 then some p.2 else findS k l)
    have h' : (if s = p.1 then some p.2 else findS s l) = none := h
    by_cases hs : s = p.1
    · rw [if_pos hs] at h'; cases h'
    · rw [if_neg hs] at h'
      by_cases hk : k = p.1
      · rw [if_pos hk, if_pos hk, if_neg]
        rintro rfl; exact hs hk
      · rw [if_neg hk, if_neg hk]
        exact findS_app h'
theorem zeroM (w : World) : (zeroValue 97).run Try.prog w = .ok (.map none) w := by kernel_rfl
theorem zeroI (w : World) : (zeroValue 3).run Try.prog w = .ok (.int .i64 0) w := by kernel_rfl

set_option maxRecDepth 100000 in
set_option maxHeartbeats 1000000 in
theorem first_any (a n : Int) (s : ByteArray) (vb sb ma mn mt : Nat) (l : List (Int × Value)) (E : List (ByteArray × Value)) (w : World) (hv : Bk w vb #[.pointer (some ⟨sb, 0, none⟩)] 84) (hs : Bk w sb #[.map (some ma), .map (some mn)] 100)
    (hI : IntMap w mn l) (ha : findI a l = some (.map (some mt))) (hS : StrMap w mt E) :
    Calls Try.prog 33 #[.int .i64 a, .string s, .int .i64 n, .pointer (some ⟨vb, 0, none⟩)] w fun e w' => e = .returned (.tuple #[]) ∧ StrMap w' mt (addE E s n) ∧ Only (fun g => g = mt) w w' := by
  have c0 := hv.cell
  have l0 := hv.lt
  have c1 := hs.cell
  have l1 := hs.lt
  have HI := Lib.hid hI
  have HS := Lib.hid hS
  have Ha := Lib.hid ha
  clear hv hs hI hS ha
  go_enter Try.func33, Try.ntmps33
  by_cases hf : findS s E = none
  · have he : addE E s n = E ++ [(s, .int .i64 n)] := by unfold addE; rw [if_pos hf]
    rw [he]
    have Hf := Lib.hid hf
    clear hf he
    go_wp2_with (first
      | (at_lookup; first
        | (refine list_findI rfl _ _ _ rfl 3 97 Try.underlying98 Try.underlying3 (.map none) (zeroM _) rfl HI.out a rfl ?_; rw [Ha.out, Option.getD_some])
        | (refine list_findS_ok rfl _ _ _ rfl 9 3 Try.underlying97 Try.underlying9 (.int .i64 0) (zeroI _) rfl HS.out s rfl ?_; rw [Hf.out, Option.getD_none, Option.isSome_none]))
      | (at_mapUpdate; refine list_updS rfl _ _ _ _ rfl 9 3 Try.underlying97 Try.underlying9 rfl HS.out s rfl Hf.out _ rfl ?_; intro w2 hm2 ho2; have HQ := Lib.hid (And.intro hm2 ho2); clear hm2 ho2))
    go_end0
    exact ⟨rfl, HQ.out⟩
  · have he : addE E s n = E := by unfold addE; rw [if_neg hf]
    obtain ⟨v, hv⟩ : ∃ v, findS s E = some v := by
      cases h : findS s E with
      | none => exact absurd h hf
      | some v => exact ⟨v, rfl⟩
    have Hv := Lib.hid hv
    rw [he]
    clear hf he hv
    go_wp2_with (at_lookup; first
        | (refine list_findI rfl _ _ _ rfl 3 97 Try.underlying98 Try.underlying3 (.map none) (zeroM _) rfl HI.out a rfl ?_; rw [Ha.out, Option.getD_some])
        | (refine list_findS_ok rfl _ _ _ rfl 9 3 Try.underlying97 Try.underlying9 (.int .i64 0) (zeroI _) rfl HS.out s rfl ?_; rw [Hv.out, Option.getD_some, Option.isSome_some]))
    go_end0
    exact ⟨rfl, HS.out, Only.refl _ _⟩
end Go.Proofs.Ytecjhniomjmocaa
