/- Layer 12 (resolve): the arguments of ResolveNames are opened; levels, blocks, areas and tests that the call makes. -/
import Derived.Test.YtecjhniomjmocaaResNh
import Derived.Test.YtecjhniomjmocaaResSm
import Derived.Test.YtecjhniomjmocaaOwnS
namespace Go.Proofs.Ytecjhniomjmocaa
open Go.RowKit Go.ChangeAt
set_option linter.unusedVariables false
set_option linter.unusedSimpArgs false

/-- A string of at most 2^48 bytes. -/
def tStr1 : Ty ByteArray where
  n := 1
  rd := fun _ _ cs x => cs = [.string x] ∧ x.size ≤ 281474976710656
  len := by rintro _ _ _ _ ⟨rfl, _⟩; rfl
  keep := fun _ _ h => h
theorem opensZ_str1 {P : Program} {t : TypeId} (ht : P.underlying t = some .string) (hc : P.cellsOf t = 1) : OpensZ P t tStr1 :=
  ⟨hc, fun _ _ _ _ _ _ _ _ _ h hw => by
    obtain ⟨s, rfl, rfl, hs⟩ := DataW.trod_string ht h
    refine ⟨s, rfl, ?_⟩
    have h9 : s.data.toList.length ≤ reachBytes := hw _ (by simp [DataW.weights])
    have e : s.size = s.data.toList.length := by simp
    unfold reachBytes at h9
    omega⟩
abbrev tBl1 : Ty Bl := tPair tStr1 (tPair tHead tInt)
abbrev tAr1 : Ty Ar := tPair tStr1 (tPair tBox (tPair tInt tInt))
abbrev tLe1 : Ty Le := tPair tStr1 (tPair tInt (tPair (tSliceB tBl1) (tPair (tSliceB tAr1) (tPair tHead (tPair tHead (tPair tHead tInt))))))
abbrev tHa1 : Ty Ha := tPair tStr2 (tPair (tPair tInt tInt) (tSlice tLe1))
abbrev tTs1 : Ty Ts := tPair tStr2 (tPair tInt (tPair tStr1 (tPair tInt tInt)))
abbrev tIt1 : Ty It := tPair tInt (tPair tStr2 (tPair (tSlice (tSlice tTs1)) (tPair tInt (tPair tRat (tPair tRat tInt)))))
theorem opensS1 : OpensZ Try.prog 9 tStr1 := opensZ_str1 Try.underlying9 (by kernel_rfl)
theorem opensBl1 : OpensZ Try.prog 73 tBl1 := opensZ_struct Try.underlying73 (by kernel_rfl) (.cons rfl opensS1 (.cons rfl (Opens.z <| opens_head Try.underlying71 (by kernel_rfl)) (.one rfl opensI)))
theorem opensAr1 : OpensZ Try.prog 77 tAr1 := opensZ_struct Try.underlying77 (by kernel_rfl) (.cons rfl opensS1 (.cons rfl opensBox (.cons rfl opensI (.one rfl opensI))))
theorem opensBls1 : OpensZ Try.prog 65 (tSliceB tBl1) := opensZ_sliceB Try.underlying65 (by kernel_rfl) (by decide) (of_decide_eq_true (by kernel_rfl)) opensBl1
theorem opensArs1 : OpensZ Try.prog 66 (tSliceB tAr1) := opensZ_sliceB Try.underlying66 (by kernel_rfl) (by decide) (of_decide_eq_true (by kernel_rfl)) opensAr1
theorem opensLe1 : OpensZ Try.prog 70 tLe1 := opensZ_struct Try.underlying70 (by kernel_rfl)
  (.cons rfl opensS1 (.cons rfl opensI (.cons rfl opensBls1 (.cons rfl opensArs1 (.cons rfl (Opens.z <| opens_head Try.underlying67 (by kernel_rfl)) (.cons rfl (Opens.z <| opens_head Try.underlying67 (by kernel_rfl)) (.cons rfl (Opens.z <| opens_head Try.underlying68 (by kernel_rfl)) (.one rfl opensI))))))))
theorem opensLes1 : OpensZ Try.prog 27 (tSlice tLe1) := opensZ_slice Try.underlying27 (by kernel_rfl) (by decide) opensLe1
theorem opensHa1 : OpensZ Try.prog 29 tHa1 := opensZ_struct Try.underlying29 (by kernel_rfl) (.cons rfl opensS (.cons rfl opensPoint (.one rfl opensLes1)))
theorem opensTs1 : OpensZ Try.prog 64 tTs1 := opensZ_struct Try.underlying64 (by kernel_rfl) (.cons rfl opensS (.cons rfl opensI (.cons rfl opensS1 (.cons rfl opensI (.one rfl opensI)))))
theorem opensAnd1 : OpensZ Try.prog 62 (tSlice tTs1) := opensZ_slice Try.underlying62 (by kernel_rfl) (by decide) opensTs1
theorem opensWhen1 : OpensZ Try.prog 55 (tSlice (tSlice tTs1)) := opensZ_slice Try.underlying55 (by kernel_rfl) (by decide) opensAnd1
theorem opensIt1 : OpensZ Try.prog 57 tIt1 := opensZ_struct Try.underlying57 (by kernel_rfl)
  (.cons rfl opensI (.cons rfl opensS (.cons rfl opensWhen1 (.cons rfl opensI (.cons rfl opensRat (.cons rfl opensRat (.one rfl opensI)))))))
theorem opensIts1 : OpensZ Try.prog 22 (tSlice tIt1) := opensZ_slice Try.underlying22 (by kernel_rfl) (by decide) opensIt1
theorem opensRules1 : OpensZ Try.prog 24 (tSlice tIt1) := opensZ_struct Try.underlying24 (by kernel_rfl) (.one rfl opensIts1)
def Imp {α : Type} (T T' : Ty α) : Prop := T.n = T'.n ∧ ∀ w B cs x, T.rd w B cs x → T'.rd w B cs x
theorem Imp.rfl' {α : Type} {T : Ty α} : Imp T T := ⟨rfl, fun _ _ _ _ h => h⟩
theorem Imp.pair {α β : Type} {S S' : Ty α} {T T' : Ty β} (h : Imp S S') (k : Imp T T') : Imp (tPair S T) (tPair S' T') :=
  ⟨by show S.n + T.n = S'.n + T'.n; rw [h.1, k.1], fun w B cs x ⟨c1, r1, e, h1, h2⟩ => ⟨c1, r1, e, h.2 _ _ _ _ h1, k.2 _ _ _ _ h2⟩⟩
theorem Imp.slice {α : Type} {S S' : Ty α} (h : Imp S S') : Imp (tSlice S) (tSlice S') :=
  ⟨rfl, fun w B cs x ⟨A, c, e, h1, h2, h3⟩ => ⟨A, c, e, h1, h2, h3.imp h.1 h.2⟩⟩
theorem Imp.sliceB {α : Type} {S S' : Ty α} (h : Imp S S') : Imp (tSliceB S) (tSliceB S') :=
  ⟨rfl, fun w B cs x h' => ⟨h.slice.2 _ _ _ _ h'.1, h'.2⟩⟩
theorem imp_str : Imp tStr1 tStr2 := ⟨rfl, fun w B cs x h => ⟨h.1, by have := h.2; omega⟩⟩
theorem imp_le : Imp tLe1 tLe := imp_str.pair (Imp.rfl'.pair ((imp_str.pair Imp.rfl').sliceB.pair ((imp_str.pair Imp.rfl').sliceB.pair Imp.rfl')))
theorem imp_it : Imp tIt1 tIt := Imp.rfl'.pair (Imp.rfl'.pair ((Imp.rfl'.pair (Imp.rfl'.pair (imp_str.pair Imp.rfl'))).slice.slice.pair Imp.rfl'))
theorem short_le {w : World} {B : Nat} {A : Option Addr} {lh : List Le} (h : Elems tLe1 w B A lh) : ∀ l ∈ lh, shortL l := fun l hl => by
  obtain ⟨cs, c1, r1, rfl, ⟨_, g1⟩, ⟨c2, r2, rfl, _, ⟨c3, r3, rfl, ⟨⟨AB, cb, _, _, _, g3⟩, _⟩, ⟨c4, r4, rfl, ⟨⟨AA, ca, _, _, _, g4⟩, _⟩, _⟩⟩⟩⟩ := h.each l hl
  refine ⟨g1, fun b hb => ?_, fun b hb => ?_⟩
  · obtain ⟨cs, c1, r1, rfl, ⟨_, k1⟩, _⟩ := g3.each b hb
    exact k1
  · obtain ⟨cs, c1, r1, rfl, ⟨_, k1⟩, _⟩ := g4.each b hb
    exact k1
def shortI (x : It) : Prop := ∀ l ∈ x.2.2.1, ∀ t ∈ l, t.2.2.1.size ≤ 281474976710656
theorem short_it {w : World} {B : Nat} {A : Option Addr} {its : List It} (h : Elems tIt1 w B A its) : ∀ x ∈ its, shortI x := fun x hx l hl t ht => by
  obtain ⟨cs, c1, r1, rfl, _, ⟨c2, r2, rfl, _, ⟨c3, r3, rfl, ⟨AW, cw, _, _, _, g3⟩, _⟩⟩⟩ := h.each x hx
  obtain ⟨cs, A2, c2, _, _, _, g4⟩ := g3.each l hl
  obtain ⟨cs, c1, r1, rfl, _, ⟨c2, r2, rfl, _, ⟨c3, r3, rfl, ⟨_, k1⟩, _⟩⟩⟩ := g4.each t ht
  exact k1
theorem items_of1 {w : World} {cs : Array Value} {y : List It} (h : (tSlice tIt1).rd w w.heap.size cs.toList y) : ∃ A cap, Value.agg cs = .agg #[.slice A y.length cap] ∧ y.length ≤ cap ∧ cap ≤ 9223372036854775807 ∧ Elems tIt w w.heap.size A y ∧ ∀ x ∈ y, shortI x := by
  obtain ⟨A, cap, e, h1, h2, h3⟩ := h
  obtain ⟨l⟩ := cs
  simp only at e
  subst e
  exact ⟨A, cap, rfl, h1, by unfold maxLen at h2; omega, h3.imp imp_it.1 imp_it.2, short_it h3⟩
theorem hall_of1 {w : World} {cs : Array Value} {y : Ha} (h : tHa1.rd w w.heap.size cs.toList y) : ∃ hn a b A cap, Value.agg cs = .agg #[.string hn, .int .i64 a, .int .i64 b, .slice A y.2.2.length cap] ∧ y.2.2.length ≤ 9223372036854775807 ∧ Elems tLe w w.heap.size A y.2.2 ∧ ∀ l ∈ y.2.2, shortL l := by
  obtain ⟨hn, ⟨a, b⟩, lv⟩ := y
  obtain ⟨c1, r1, e, ⟨rfl, g1⟩, ⟨c2, r2, rfl, ⟨d1, d2, rfl, ⟨rfl, _⟩, ⟨rfl, _⟩⟩, ⟨A, cap, rfl, h1, h2, h3⟩⟩⟩ := h
  obtain ⟨l⟩ := cs
  simp only at e
  subst e
  have h1' : lv.length ≤ cap := h1
  unfold maxLen at h2
  exact ⟨hn, a, b, A, cap, rfl, by show lv.length ≤ _; omega, h3.imp imp_le.1 imp_le.2, short_le h3⟩

/-! ### picks with the bounds of all numbers -/
section
variable {w : World} {B : Nat} {A : Option Addr}
theorem pick_le2 {ls : List Le} (h : Elems tLe w B A ls) {k : Nat} (hk : k < ls.length) :
    ∃ b off nm ht AB bs cb AA ars ca h1 h2 h3 att, A = some ⟨b, off, none⟩ ∧ b < B ∧ Hid (ls[k]? = some (nm, ht, bs, ars, h1, h2, h3, att)) ∧
      w.cell? ⟨b, off + k * 8, none⟩ = some (.string nm) ∧ w.cell? ⟨b, off + k * 8 + 1, none⟩ = some (.int .i64 ht) ∧ w.cell? ⟨b, off + k * 8 + 2, none⟩ = some (.slice AB bs.length cb) ∧ w.cell? ⟨b, off + k * 8 + 3, none⟩ = some (.slice AA ars.length ca) ∧
      w.cell? ⟨b, off + k * 8 + 4, none⟩ = some (.slice h1.1 h1.2.1 h1.2.2) ∧ w.cell? ⟨b, off + k * 8 + 5, none⟩ = some (.slice h2.1 h2.2.1 h2.2.2) ∧ w.cell? ⟨b, off + k * 8 + 6, none⟩ = some (.slice h3.1 h3.2.1 h3.2.2) ∧ w.cell? ⟨b, off + k * 8 + 7, none⟩ = some (.int .i64 att) ∧
      Hid (Elems tBl w B AB bs) ∧ Hid (Elems tAr w B AA ars) ∧ fits ht ∧ fits att := by
  obtain ⟨b, off, ⟨nm, ht, bs, ars, h1, h2, h3, att⟩, cs, hA, hb, _, hx, _, ⟨c1, r1, rfl, ⟨rfl, g1⟩, ⟨c2, r2, rfl, ⟨rfl, g2⟩, ⟨c3, r3, rfl, ⟨⟨AB, cb, rfl, g3, g4, g5⟩, k1⟩, ⟨c4, r4, rfl, ⟨⟨AA, ca, rfl, g6, g7, g8⟩, k2⟩, ⟨c5, r5, rfl, rfl, ⟨c6, r6, rfl, rfl, ⟨c7, r7, rfl, rfl, ⟨rfl, g9⟩⟩⟩⟩⟩⟩⟩⟩, hc⟩ := h.pick hk
  exact ⟨b, off, nm, ht, AB, bs, cb, AA, ars, ca, h1, h2, h3, att, hA, hb, hx, hc 0 _ rfl, hc 1 _ rfl, hc 2 _ rfl, hc 3 _ rfl, hc 4 _ rfl, hc 5 _ rfl, hc 6 _ rfl, hc 7 _ rfl, g5, g8, g2, g9⟩
theorem pick_bl2 {ls : List Bl} (h : Elems tBl w B A ls) {k : Nat} (hk : k < ls.length) :
    ∃ b off nm h1 att, A = some ⟨b, off, none⟩ ∧ b < B ∧ Hid (ls[k]? = some (nm, h1, att)) ∧
      w.cell? ⟨b, off + k * 3, none⟩ = some (.string nm) ∧ w.cell? ⟨b, off + k * 3 + 1, none⟩ = some (.slice h1.1 h1.2.1 h1.2.2) ∧ w.cell? ⟨b, off + k * 3 + 2, none⟩ = some (.int .i64 att) ∧ fits att := by
  obtain ⟨b, off, ⟨nm, h1, att⟩, cs, hA, hb, _, hx, _, ⟨c1, r1, rfl, ⟨rfl, g1⟩, ⟨c2, r2, rfl, rfl, ⟨rfl, g2⟩⟩⟩, hc⟩ := h.pick hk
  exact ⟨b, off, nm, h1, att, hA, hb, hx, hc 0 _ rfl, hc 1 _ rfl, hc 2 _ rfl, g2⟩
theorem pick_ar2 {ls : List Ar} (h : Elems tAr w B A ls) {k : Nat} (hk : k < ls.length) :
    ∃ b off nm x1 x2 x3 x4 hd att, A = some ⟨b, off, none⟩ ∧ b < B ∧ Hid (ls[k]? = some (nm, (x1, x2, x3, x4), hd, att)) ∧
      w.cell? ⟨b, off + k * 7, none⟩ = some (.string nm) ∧ w.cell? ⟨b, off + k * 7 + 1, none⟩ = some (.int .i64 x1) ∧ w.cell? ⟨b, off + k * 7 + 2, none⟩ = some (.int .i64 x2) ∧ w.cell? ⟨b, off + k * 7 + 3, none⟩ = some (.int .i64 x3) ∧ w.cell? ⟨b, off + k * 7 + 4, none⟩ = some (.int .i64 x4) ∧ w.cell? ⟨b, off + k * 7 + 5, none⟩ = some (.int .i64 hd) ∧ w.cell? ⟨b, off + k * 7 + 6, none⟩ = some (.int .i64 att) ∧
      fits x1 ∧ fits x2 ∧ fits x3 ∧ fits x4 ∧ fits hd ∧ fits att := by
  obtain ⟨b, off, ⟨nm, ⟨x1, x2, x3, x4⟩, hd, att⟩, cs, hA, hb, _, hx, _, ⟨c1, r1, rfl, ⟨rfl, g1⟩, ⟨c2, r2, rfl, ⟨d1, s1, rfl, ⟨rfl, f1⟩, ⟨d2, s2, rfl, ⟨rfl, f2⟩, ⟨d3, s3, rfl, ⟨rfl, f3⟩, ⟨rfl, f4⟩⟩⟩⟩, ⟨c3, r3, rfl, ⟨rfl, f5⟩, ⟨rfl, f6⟩⟩⟩⟩, hc⟩ := h.pick hk
  exact ⟨b, off, nm, x1, x2, x3, x4, hd, att, hA, hb, hx, hc 0 _ rfl, hc 1 _ rfl, hc 2 _ rfl, hc 3 _ rfl, hc 4 _ rfl, hc 5 _ rfl, hc 6 _ rfl, f1, f2, f3, f4, f5, f6⟩
end
/-! ### what the call makes -/
theorem flat_strN : Flat tStr2 := fun h => h
theorem flat_head : Flat tHead := fun h => h
theorem flat_tsN : Flat tTs := flat_pair flat_strN (flat_pair flat_int (flat_pair flat_strN (flat_pair flat_int flat_int)))
theorem one_ts : ∀ (w : World) (B : Nat) (cs : List Value) (x : Ts), tTs.rd w B cs x → ∀ u ∈ cs, u.oneCell' = true := by
  rintro w B cs x ⟨c1, r1, rfl, ⟨rfl, _⟩, ⟨c2, r2, rfl, ⟨rfl, _⟩, ⟨c3, r3, rfl, ⟨rfl, _⟩, ⟨c4, r4, rfl, ⟨rfl, _⟩, ⟨rfl, _⟩⟩⟩⟩⟩ u hu
  simp only [List.cons_append, List.nil_append, List.mem_cons, List.not_mem_nil, or_false] at hu
  rcases hu with rfl | rfl | rfl | rfl | rfl <;> rfl
theorem zB_size (s : ByteArray) : (zB s).size = s.size + 1 := by
  unfold zB
  rw [ByteArray.size_append]
  have : zC.size = 1 := rfl
  omega
theorem dtail_len : ∀ s : List UInt8, (dtail s).length ≤ s.length + 1
  | [] => by simp [dtail]
  | c :: r => by
    have := dtail_len r
    unfold dtail
    split <;> simp <;> omega
theorem dotP_size (s : ByteArray) : (dotP s).size ≤ s.size + 2 := by
  have h := dtail_len s.data.toList
  have e : (dotP s).size = (dtail s.data.toList).length + 1 := by simp [dotP, ByteArray.size]
  have e2 : s.data.toList.length = s.size := by simp
  omega
theorem bl_rob {E : TypeId → Prop} {rb : Nat} {X : World} {nm : ByteArray} {q : Hd} {att : Int} (h1 : nm.size ≤ 281474976710656) (f1 : fits att) : Rob tBl E rb X [.string (zB nm), .slice q.1 q.2.1 q.2.2, .int .i64 att] (zBl (nm, q, att)) :=
  Rob.flat (B := 0) (flat_pair flat_strN (flat_pair flat_head flat_int)) ⟨[_], _, rfl, ⟨rfl, by show (zB nm).size ≤ _; rw [zB_size]; omega⟩, ⟨[_], _, rfl, rfl, ⟨rfl, f1⟩⟩⟩ (by
    intro u hu
    simp only [List.mem_cons, List.not_mem_nil, or_false] at hu
    rcases hu with rfl | rfl | rfl <;> rfl)
theorem ar_rob {E : TypeId → Prop} {rb : Nat} {X : World} {nm : ByteArray} {x1 x2 x3 x4 hd att : Int} (h1 : nm.size ≤ 281474976710656) (f1 : fits x1) (f2 : fits x2) (f3 : fits x3) (f4 : fits x4) (f5 : fits hd) (f6 : fits att) : Rob tAr E rb X [.string (zB nm), .int .i64 x1, .int .i64 x2, .int .i64 x3, .int .i64 x4, .int .i64 hd, .int .i64 att] (zAr (nm, (x1, x2, x3, x4), hd, att)) :=
  Rob.flat (B := 0) (flat_pair flat_strN (flat_pair (flat_pair flat_int (flat_pair flat_int (flat_pair flat_int flat_int))) (flat_pair flat_int flat_int))) ⟨[_], _, rfl, ⟨rfl, by show (zB nm).size ≤ _; rw [zB_size]; omega⟩, ⟨[_, _, _, _], _, rfl, ⟨[_], _, rfl, ⟨rfl, f1⟩, ⟨[_], _, rfl, ⟨rfl, f2⟩, ⟨[_], [_], rfl, ⟨rfl, f3⟩, ⟨rfl, f4⟩⟩⟩⟩, ⟨[_], [_], rfl, ⟨rfl, f5⟩, ⟨rfl, f6⟩⟩⟩⟩ (by
    intro u hu
    simp only [List.mem_cons, List.not_mem_nil, or_false] at hu
    rcases hu with rfl | rfl | rfl | rfl | rfl | rfl | rfl <;> rfl)
theorem le_rob {E : TypeId → Prop} {rb : Nat} {X : World} {nm : ByteArray} {ht att : Int} {bs : List Bl} {ars : List Ar} {h1 h2 h3 : Hd} {v u : Value} (hs : nm.size ≤ 281474976710656) (f1 : fits ht) (f2 : fits att) (hb : Rob (tSlice tBl) E rb X [v] (bs.map zBl)) (ha : Rob (tSlice tAr) E rb X [u] (ars.map zAr)) (l1 : bs.length ≤ 50) (l2 : ars.length ≤ 50) :
    Rob tLe E rb X [.string (zB nm), .int .i64 ht, v, u, .slice h1.1 h1.2.1 h1.2.2, .slice h2.1 h2.2.1 h2.2.2, .slice h3.1 h3.2.1 h3.2.2, .int .i64 att] (zLe (nm, ht, bs, ars, h1, h2, h3, att)) := by
  refine ⟨fun z hz => ?_, fun X' ho => ⟨[_], _, rfl, ⟨rfl, by show (zB nm).size ≤ _; rw [zB_size]; omega⟩, ⟨[_], _, rfl, ⟨rfl, f1⟩, ⟨[_], _, rfl, ⟨hb.2 X' ho, by show (bs.map zBl).length ≤ _; rw [List.length_map]; omega⟩, ⟨[_], _, rfl, ⟨ha.2 X' ho, by show (ars.map zAr).length ≤ _; rw [List.length_map]; omega⟩, ⟨[_], _, rfl, rfl, ⟨[_], _, rfl, rfl, ⟨[_], [_], rfl, rfl, ⟨rfl, f2⟩⟩⟩⟩⟩⟩⟩⟩⟩
  have hv := hb.1 v (by simp)
  have hu := ha.1 u (by simp)
  simp only [List.mem_cons, List.not_mem_nil, or_false] at hz
  rcases hz with rfl | rfl | rfl | rfl | rfl | rfl | rfl | rfl <;> first | rfl | exact hv | exact hu
theorem it_robN {E : TypeId → Prop} {rb : Nat} {X : World} {kd n rn rd sn sd att : Int} {nm : ByteArray} {v : Value} {ws : List (List Ts)} (h1 : nm.size ≤ 1125899906842624) (f1 : fits kd) (f2 : fits n) (f3 : fits rn) (f4 : fits rd) (f5 : fits sn) (f6 : fits sd) (f7 : fits att)
    (hw : Rob (tSlice (tSlice tTs)) E rb X [v] (ws.map (·.map zT))) : Rob tIt E rb X [.int .i64 kd, .string nm, v, .int .i64 n, .int .i64 rn, .int .i64 rd, .int .i64 sn, .int .i64 sd, .int .i64 att] (zI (kd, nm, ws, n, (rn, rd), (sn, sd), att)) := by
  refine ⟨fun u hu => ?_, fun X' ho => ⟨[_], _, rfl, ⟨rfl, f1⟩, ⟨[_], _, rfl, ⟨rfl, h1⟩, ⟨[_], _, rfl, hw.2 X' ho, ⟨[_], _, rfl, ⟨rfl, f2⟩, ⟨[_, _], _, rfl, ⟨[_], [_], rfl, ⟨rfl, f3⟩, ⟨rfl, f4⟩⟩, ⟨[_, _], _, rfl, ⟨[_], [_], rfl, ⟨rfl, f5⟩, ⟨rfl, f6⟩⟩, ⟨rfl, f7⟩⟩⟩⟩⟩⟩⟩⟩
  have hv := hw.1 v (by simp)
  simp only [List.mem_cons, List.not_mem_nil, or_false] at hu
  rcases hu with rfl | rfl | rfl | rfl | rfl | rfl | rfl | rfl | rfl <;> first | rfl | exact hv
theorem map_takeG {α β : Type} {f : α → β} {l : List α} {i : Nat} {x : α} (h : l[i]? = some x) : (l.take (i + 1)).map f = (l.take i).map f ++ [f x] := by
  rw [List.take_add_one, h, List.map_append]
  rfl
theorem half_step {α : Type} {f : α → α} {l : List α} {i : Nat} {x : α} (h : l[i]? = some x) : ((l.take i).map f ++ l.drop i).set i (f x) = (l.take (i + 1)).map f ++ l.drop (i + 1) := by
  obtain ⟨hi, rfl⟩ := List.getElem?_eq_some_iff.1 h
  rw [map_takeG h, List.set_append_right _ _ (by rw [List.length_map, List.length_take]; omega), List.drop_eq_getElem_cons hi]
  have e : i - (List.map f (l.take i)).length = 0 := by simp; omega
  rw [e, List.set_cons_zero, List.append_assoc]
  rfl
theorem half_at {α : Type} {f : α → α} {l : List α} {i : Nat} {x : α} (h : l[i]? = some x) : ((l.take i).map f ++ l.drop i)[i]? = some x := by
  obtain ⟨hi, rfl⟩ := List.getElem?_eq_some_iff.1 h
  rw [List.getElem?_append_right (by rw [List.length_map, List.length_take]; omega)]
  have e : i - (List.map f (l.take i)).length = 0 := by simp; omega
  rw [e, List.getElem?_drop]
  simp
/-- The name of a test is written. -/
theorem ts_set {w : World} {B : Nat} {cs : List Value} {t : Ts} {n9 : ByteArray} (h : tTs.rd w B cs t) (hs : n9.size ≤ 1125899906842624) : tTs.rd w B (cs.set 2 (.string n9)) (t.1, t.2.1, n9, t.2.2.2.1, t.2.2.2.2) := by
  obtain ⟨nm, op, nn, n, att⟩ := t
  obtain ⟨c1, r1, rfl, ⟨rfl, g1⟩, ⟨c2, r2, rfl, ⟨rfl, g2⟩, ⟨c3, r3, rfl, ⟨rfl, g3⟩, ⟨c4, r4, rfl, ⟨rfl, g4⟩, ⟨rfl, g5⟩⟩⟩⟩⟩ := h
  exact ⟨[_], _, rfl, ⟨rfl, g1⟩, ⟨[_], _, rfl, ⟨rfl, g2⟩, ⟨[_], _, rfl, ⟨rfl, hs⟩, ⟨[_], [_], rfl, ⟨rfl, g4⟩, ⟨rfl, g5⟩⟩⟩⟩⟩
theorem half_len {α : Type} {f : α → α} (l : List α) (i : Nat) : ((l.take i).map f ++ l.drop i).length = l.length := by
  rw [List.length_append, List.length_map, List.length_take, List.length_drop]
  omega
/-- A test of the call's own row, half of it renamed. -/
theorem pick_own {X : World} {base : Nat} {A : Option Addr} {c m : Nat} {l : List Ts} (h : OwnL tTs 64 X base 0 (.slice A l.length c) ((l.take m).map zT ++ l.drop m)) (hm : m < l.length) :
    ∃ g nm op nn n att, A = some ⟨g, 0, none⟩ ∧ base ≤ g ∧ g < X.heap.size ∧ (∃ C, Bk X g C 64) ∧ Hid (l[m]? = some (nm, op, nn, n, att)) ∧ X.cell? ⟨g, m * 5, none⟩ = some (.string nm) ∧ X.cell? ⟨g, m * 5 + 2, none⟩ = some (.string nn) ∧
      Hid (∀ (X' : World) (n9 : ByteArray), OwnL tTs 64 X' base 0 (.slice A l.length c) ((l.take m).map zT ++ l.drop m) → n9.size ≤ 1125899906842624 → zT (nm, op, nn, n, att) = (nm, op, n9, n, att) → OwnL tTs 64 (X'.setCell ⟨g, m * 5 + 2, none⟩ (.string n9)) base 0 (.slice A l.length c) ((l.take (m + 1)).map zT ++ l.drop (m + 1))) ∧
      Hid (zT (nm, op, nn, n, att) = (nm, op, nn, n, att) → OwnL tTs 64 X base 0 (.slice A l.length c) ((l.take (m + 1)).map zT ++ l.drop (m + 1))) := by
  have hl := half_len (f := zT) l m
  obtain ⟨g, cg, e, k1, k2, k3, cs, hr, hc⟩ := h.block (i := m) (by omega)
  injection e with e1 e2 e3
  subst e1
  obtain ⟨t, ht⟩ : ∃ t, l[m]? = some t := ⟨l[m], List.getElem?_eq_getElem hm⟩
  have hx := half_at (f := zT) ht
  obtain ⟨_, hx'⟩ := List.getElem?_eq_some_iff.1 hx
  rw [hx'] at hr
  have hstep := half_step (f := zT) ht
  obtain ⟨nm, op, nn, n, att⟩ := t
  have hr' := hr
  obtain ⟨c1, r1, rfl, ⟨rfl, g1⟩, ⟨c2, r2, rfl, ⟨rfl, g2⟩, ⟨c3, r3, rfl, ⟨rfl, g3⟩, ⟨c4, r4, rfl, ⟨rfl, g4⟩, ⟨rfl, g5⟩⟩⟩⟩⟩ := hr
  refine ⟨g, nm, op, nn, n, att, rfl, k1, k2, k3, Lib.hid ht, hc 0 _ rfl, hc 2 _ rfl, Lib.hid fun X' n9 h' h9 hz => ?_, Lib.hid fun hz => ?_⟩
  · rw [← hstep, hz]
    exact h'.setc (i := m) (j := 2) (by omega) rfl (by decide) (Nat.zero_le _) fun cs hcs => by
      rw [hx'] at hcs
      exact ts_set hcs h9
  · rw [← hstep, hz]
    have : ((l.take m).map zT ++ l.drop m).set m (nm, op, nn, n, att) = (l.take m).map zT ++ l.drop m := by
      rw [← hx', List.set_getElem_self]
    rw [this]
    exact h
theorem zT_none {nm nn : ByteArray} {op n att : Int} (h : nn = noName ∨ (nm ≠ levelB ∧ nm ≠ blockB)) : zT (nm, op, nn, n, att) = (nm, op, nn, n, att) := by
  unfold zT
  simp only
  rw [if_neg (fun k => h.elim (fun e => k.1 e) (fun e => e.1 k.2)), if_neg (fun k => h.elim (fun e => k.1 e) (fun e => e.2 k.2))]
theorem zT_level {nm nn : ByteArray} {op n att : Int} (h : nn ≠ noName) (hm : nm = levelB) : zT (nm, op, nn, n, att) = (nm, op, zB nn, n, att) := by
  unfold zT
  simp only
  rw [if_pos ⟨h, hm⟩]
theorem zT_block {nm nn : ByteArray} {op n att : Int} (h : nn ≠ noName) (hm : nm = blockB) : zT (nm, op, nn, n, att) = (nm, op, dotP nn, n, att) := by
  unfold zT
  simp only
  rw [if_neg (fun k => absurd (hm.symm.trans k.2) (by decide)), if_pos ⟨h, hm⟩]
theorem is_level {nm : ByteArray} {b : Bool} (h : decide (nm = levelB) = b) : (nm.toList == [108, 101, 118, 101, 108]) = b := by
  subst h
  have e : levelB.toList = [108, 101, 118, 101, 108] := by rw [ByteArray.toList_eq]; rfl
  by_cases h : nm = levelB
  · subst h; rw [e]; rfl
  · rw [← e, bytes_ne h]; simp [h]
theorem is_block {nm : ByteArray} {b : Bool} (h : decide (nm = blockB) = b) : (nm.toList == [98, 108, 111, 99, 107]) = b := by
  subst h
  have e : blockB.toList = [98, 108, 111, 99, 107] := by rw [ByteArray.toList_eq]; rfl
  by_cases h : nm = blockB
  · subst h; rw [e]; rfl
  · rw [← e, bytes_ne h]; simp [h]
end Go.Proofs.Ytecjhniomjmocaa
