/- Layer 12 (resolve): the law's example, its items and its hall. -/
import Derived.Test.YtecjhniomjmocaaResT
import Derived.Test.YtecjhniomjmocaaMake
import Derived.Test.YtecjhniomjmocaaFloat
namespace Go.Proofs.Ytecjhniomjmocaa
open Go.RowKit Go.ChangeAt
set_option linter.unusedVariables false
set_option linter.unusedSimpArgs false
attribute [local go_sem] ext_cell ext_frozen lt_ext ext_drew

def sA : ByteArray := ⟨#[97]⟩
def sB : ByteArray := ⟨#[98]⟩
def sC : ByteArray := ⟨#[99]⟩
def sD : ByteArray := ⟨#[100]⟩
def sE : ByteArray := ⟨#[101]⟩
def sGround : ByteArray := ⟨#[103, 114, 111, 117, 110, 100]⟩
def sPit : ByteArray := ⟨#[112, 105, 116]⟩
def sAge : ByteArray := ⟨#[97, 103, 101]⟩
def sMember : ByteArray := ⟨#[109, 101, 109, 98, 101, 114]⟩
def sSize : ByteArray := ⟨#[115, 105, 122, 101]⟩
def sBlock : ByteArray := ⟨#[98, 108, 111, 99, 107]⟩
def sLevel : ByteArray := ⟨#[108, 101, 118, 101, 108]⟩
def sGPit : ByteArray := ⟨#[103, 114, 111, 117, 110, 100, 46, 112, 105, 116]⟩
def sBalcony : ByteArray := ⟨#[98, 97, 108, 99, 111, 110, 121]⟩
def hd0 : Hd := (none, 0, 0)
def exH : List Le := [(sGround, 0, [(sA, hd0, 0)], [(sPit, (0, 0, 0, 0), 0, 0)], hd0, hd0, hd0, 0)]
def tst (a : ByteArray) (op : Int) (n : ByteArray) (k att : Int) : Ts := (a, op, n, k, att)
def itm (kd : Int) (nm : ByteArray) (ws : List (List Ts)) : It := (kd, nm, ws, 0, (0, 0), (0, 0), 7)
def exX : It := itm 1 sA [[tst sAge 3 noName 18 0], [tst sMember 1 noName 1 0]]
def exY : It := itm 2 sB [[tst sAge 2 noName 5 0, tst sSize 5 noName 2 0]]
def exZ : It := itm 2 sC [[tst sAge 5 noName 150 0]]
def exW : It := itm 2 sD [[tst sBlock 1 sGPit 0 0]]
def exE : It := itm 1 sE []
def exI : List It := [exX, exY, exZ, exW, exE]
def exD1 : It := itm 2 sD [[tst sLevel 1 sBalcony 0 9]]
def exE1 : It := itm 2 sE [[tst sAge 1 sGround 0 8]]
def exE2 : It := itm 2 sE []
def exJ : List It := [exD1, exE1, exE2]
def exL : Nm := (lvlsN exH, blksN exH)
theorem ex_faults : faultsP exL exI = [] := by decide +kernel
theorem ex_faults2 : faultsP exL exJ = [(8, 7, 9), (10, 7, 8), (9, 7, -1)] := by decide +kernel
def exRules : List Rl := rulesP exL exI
theorem ex_lens : exRules.length = 5 ∧ exRules.map (fun r => r.2.2.1.length) = [2, 2, 0, 1, 1] := by decide +kernel

/-- An item in a block of its own. -/
def ItAt (X : World) (b : Nat) (kd : Int) (nm : ByteArray) (ws : List (List Ts)) : Prop :=
  ∃ A c, Bk X b #[.int .i64 kd, .string nm, .slice A ws.length c, .int .i64 0, .int .i64 0, .int .i64 0, .int .i64 0, .int .i64 0, .int .i64 7] 57 ∧ ws.length ≤ c ∧ c ≤ maxLen ∧ Elems (tSlice tTs) X X.heap.size A ws
theorem ItAt.below {X Y : World} {b : Nat} {kd : Int} {nm : ByteArray} {ws : List (List Ts)} (h : ItAt X b kd nm ws) (hb : Below X.heap.size X Y) : ItAt Y b kd nm ws := by
  obtain ⟨A, c, h1, h2, h3, h4⟩ := h
  exact ⟨A, c, h1.below hb, h2, h3, h4.keep hb hb.size⟩
def HallAt (X : World) (b : Nat) : Prop := ∃ g, Bk X b #[.string noName, .int .i64 0, .int .i64 0, .slice (some ⟨g, 0, none⟩) 1 1] 29 ∧ Elems tLe X b (some ⟨g, 0, none⟩) exH
theorem HallAt.lt {X : World} {b : Nat} (h : HallAt X b) : b < X.heap.size := by
  obtain ⟨g, h1, h2⟩ := h
  exact h1.lt
theorem HallAt.keep {X Y : World} {b C : Nat} (h : HallAt X b) (hb : Below C X Y) (hC : b < C) : HallAt Y b := by
  obtain ⟨g, h1, h2⟩ := h
  exact ⟨g, (hb.block b hC).trans h1, h2.keep (hb.mono (by omega)) (Nat.le_refl _)⟩
theorem HallAt.below {X Y : World} {b : Nat} (h : HallAt X b) (hb : Below X.heap.size X Y) : HallAt Y b := h.keep hb h.lt
theorem ts_rd (w : World) (B : Nat) (a : ByteArray) (op : Int) (n : ByteArray) (k att : Int) (h1 : a.size ≤ 1125899906842624) (h2 : fits op) (h3 : n.size ≤ 1125899906842624) (h4 : fits k) (h5 : fits att) :
    tTs.rd w B [.string a, .int .i64 op, .string n, .int .i64 k, .int .i64 att] (tst a op n k att) := ⟨[_], _, rfl, ⟨rfl, h1⟩, [_], _, rfl, ⟨rfl, h2⟩, [_], _, rfl, ⟨rfl, h3⟩, [_], _, rfl, ⟨rfl, h4⟩, ⟨rfl, h5⟩⟩
def itR (kd : Int) (nm : ByteArray) (A : Option Addr) (n c : Nat) : List Value := [.int .i64 kd, .string nm, .slice A n c, .int .i64 0, .int .i64 0, .int .i64 0, .int .i64 0, .int .i64 0, .int .i64 7]
theorem it_rd {X : World} {B n c : Nat} {kd : Int} {nm : ByteArray} {A : Option Addr} {ws : List (List Ts)} (h1 : fits kd) (h2 : nm.size ≤ 1125899906842624) (hn : ws.length = n) (h3 : n ≤ c) (h4 : c ≤ maxLen) (h : Elems (tSlice tTs) X B A ws) : tIt.rd X B (itR kd nm A n c) (itm kd nm ws) := by
  subst hn
  have f0 : fits 0 := by unfold fits; omega
  have f7 : fits 7 := by unfold fits; omega
  exact ⟨[_], _, rfl, ⟨rfl, h1⟩, [_], _, rfl, ⟨rfl, h2⟩, [_], _, rfl, ⟨A, c, rfl, h3, h4, h⟩, [_], _, rfl, ⟨rfl, f0⟩, [_, _], _, rfl, ⟨[_], [_], rfl, ⟨rfl, f0⟩, ⟨rfl, f0⟩⟩, [_, _], _, rfl, ⟨[_], [_], rfl, ⟨rfl, f0⟩, ⟨rfl, f0⟩⟩, ⟨rfl, f7⟩⟩
theorem exI_at {X : World} {g k2 k3 k4 k5 : Nat} {A2 A3 A4 A5 : Option Addr} (h : Bk X g (itR 1 sA A2 2 k2 ++ (itR 2 sB A3 1 k3 ++ (itR 2 sC A4 1 k4 ++ (itR 2 sD A5 1 k5 ++ itR 1 sE none 0 0)))).toArray 57) (B : Nat) (hB : g < B)
    (a2 : 2 ≤ k2) (b2 : k2 ≤ maxLen) (e2 : Elems (tSlice tTs) X B A2 [[tst sAge 3 noName 18 0], [tst sMember 1 noName 1 0]]) (a3 : 1 ≤ k3) (b3 : k3 ≤ maxLen) (e3 : Elems (tSlice tTs) X B A3 [[tst sAge 2 noName 5 0, tst sSize 5 noName 2 0]])
    (a4 : 1 ≤ k4) (b4 : k4 ≤ maxLen) (e4 : Elems (tSlice tTs) X B A4 [[tst sAge 5 noName 150 0]]) (a5 : 1 ≤ k5) (b5 : k5 ≤ maxLen) (e5 : Elems (tSlice tTs) X B A5 [[tst sBlock 1 sGPit 0 0]]) : Elems tIt X B (some ⟨g, 0, none⟩) exI := by
  have f1 : fits 1 := by unfold fits; omega
  have f2 : fits 2 := by unfold fits; omega
  refine Elems.of_block [itR 1 sA A2 2 k2, itR 2 sB A3 1 k3, itR 2 sC A4 1 k4, itR 2 sD A5 1 k5, itR 1 sE none 0 0] h hB rfl (fun i hi => ?_) (by simp)
  rcases (show i = 0 ∨ i = 1 ∨ i = 2 ∨ i = 3 ∨ i = 4 by simp [exI] at hi; omega) with rfl | rfl | rfl | rfl | rfl
  · exact it_rd f1 (by decide) rfl a2 b2 e2
  · exact it_rd f2 (by decide) rfl a3 b3 e3
  · exact it_rd f2 (by decide) rfl a4 b4 e4
  · exact it_rd f2 (by decide) rfl a5 b5 e5
  · exact it_rd f1 (by decide) rfl (Nat.le_refl _) (by simp [maxLen]) Elems.nil
theorem exJ_at {X : World} {g k2 k3 : Nat} {A2 A3 : Option Addr} (h : Bk X g (itR 2 sD A2 1 k2 ++ (itR 2 sE A3 1 k3 ++ itR 2 sE none 0 0)).toArray 57) (B : Nat) (hB : g < B)
    (a2 : 1 ≤ k2) (b2 : k2 ≤ maxLen) (e2 : Elems (tSlice tTs) X B A2 [[tst sLevel 1 sBalcony 0 9]]) (a3 : 1 ≤ k3) (b3 : k3 ≤ maxLen) (e3 : Elems (tSlice tTs) X B A3 [[tst sAge 1 sGround 0 8]]) : Elems tIt X B (some ⟨g, 0, none⟩) exJ := by
  have f2 : fits 2 := by unfold fits; omega
  refine Elems.of_block [itR 2 sD A2 1 k2, itR 2 sE A3 1 k3, itR 2 sE none 0 0] h hB rfl (fun i hi => ?_) (by simp)
  rcases (show i = 0 ∨ i = 1 ∨ i = 2 by simp [exJ] at hi; omega) with rfl | rfl | rfl
  · exact it_rd f2 (by decide) rfl a2 b2 e2
  · exact it_rd f2 (by decide) rfl a3 b3 e3
  · exact it_rd f2 (by decide) rfl (Nat.le_refl _) (by simp [maxLen]) Elems.nil
theorem ex_small : ∀ l ∈ exH, l.2.2.1.length + l.2.2.2.1.length ≤ 50 := by decide
theorem ex_few : ∀ x ∈ exI, x.2.2.1.length ≤ 12 ∧ ∀ l ∈ x.2.2.1, l.length ≤ 8 := by decide
theorem ex_few2 : ∀ x ∈ exJ, x.2.2.1.length ≤ 12 ∧ ∀ l ∈ x.2.2.1, l.length ≤ 8 := by decide
theorem pick_rule {w : World} {B : Nat} {A : Option Addr} {rs : List Rl} (h : Elems tRl w B A rs) {k : Nat} (hk : k < rs.length) :
    ∃ b off kd nm AZ zs zc num rn rd sn sd, A = some ⟨b, off, none⟩ ∧ b < B ∧ Hid (rs[k]? = some (kd, nm, zs, num, (rn, rd), (sn, sd))) ∧
      w.cell? ⟨b, off + k * 8, none⟩ = some (.int .i64 kd) ∧ w.cell? ⟨b, off + k * 8 + 1, none⟩ = some (.string nm) ∧ w.cell? ⟨b, off + k * 8 + 2, none⟩ = some (.slice AZ zs.length zc) ∧ w.cell? ⟨b, off + k * 8 + 3, none⟩ = some (.int .i64 num) ∧
      w.cell? ⟨b, off + k * 8 + 4, none⟩ = some (.int .i64 rn) ∧ w.cell? ⟨b, off + k * 8 + 5, none⟩ = some (.int .i64 rd) ∧ w.cell? ⟨b, off + k * 8 + 6, none⟩ = some (.int .i64 sn) ∧ w.cell? ⟨b, off + k * 8 + 7, none⟩ = some (.int .i64 sd) ∧
      nm.size ≤ maxLen ∧ zs.length ≤ zc ∧ zc ≤ maxLen ∧ Elems tZn w B AZ zs ∧ fits kd ∧ fits num := by
  obtain ⟨b, off, ⟨kd, nm, zs, num, ⟨rn, rd⟩, ⟨sn, sd⟩⟩, cs, hA, hb, _, hx, _, ⟨c1, r1, rfl, ⟨rfl, h1⟩, ⟨c2, r2, rfl, ⟨rfl, h2⟩, ⟨c3, r3, rfl, ⟨AZ, zc, rfl, h3, h4, h5⟩, ⟨c4, r4, rfl, ⟨rfl, h6⟩, ⟨c5, r5, rfl, ⟨a1, b1, rfl, ⟨rfl, _⟩, ⟨rfl, _⟩⟩, ⟨a2, b2, rfl, ⟨rfl, _⟩, ⟨rfl, _⟩⟩⟩⟩⟩⟩⟩, hc⟩ := h.pick hk
  exact ⟨b, off, kd, nm, AZ, zs, zc, num, rn, rd, sn, sd, hA, hb, hx, hc 0 _ rfl, hc 1 _ rfl, hc 2 _ rfl, hc 3 _ rfl, hc 4 _ rfl, hc 5 _ rfl, hc 6 _ rfl, hc 7 _ rfl, h2, h3, h4, h5, h1, h6⟩
def zn1 : Zn := limZ.set 1 (0, 17)
def zn2 : Zn := limZ.set 2 (1, 1)
def zn3 : Zn := (limZ.set 1 (0, 4)).set 8 (3, 12)
def zn4 : Zn := (limZ.set 1 (6, 150)).set 8 (3, 12)
def zn5 : Zn := limZ.set 5 (1, 1)
theorem ex_rules : exRules = [(1, sA, [zn1, zn2], 0, (0, 0), (0, 0)), (2, sB, [zn3, zn4], 0, (0, 0), (0, 0)), (2, sC, [], 0, (0, 0), (0, 0)), (2, sD, [zn5], 0, (0, 0), (0, 0)), (1, sE, [limZ], 0, (0, 0), (0, 0))] := by kernel_rfl
/-- What the example's check looks at. -/
structure ExCells (X : World) (b off : Nat) : Prop where
  lt : b < X.heap.size
  z0 : ∃ b0 o0 c0, X.cell? ⟨b, off + 2, none⟩ = some (.slice (some ⟨b0, o0, none⟩) 2 c0) ∧ b0 < X.heap.size ∧ X.cell? ⟨b0, o0 + 2, none⟩ = some (.int .i64 0) ∧ X.cell? ⟨b0, o0 + 3, none⟩ = some (.int .i64 17) ∧ X.cell? ⟨b0, o0 + 20 + 4, none⟩ = some (.int .i64 1) ∧ X.cell? ⟨b0, o0 + 20 + 5, none⟩ = some (.int .i64 1)
  z1 : ∃ b0 o0 c0, X.cell? ⟨b, off + 8 + 2, none⟩ = some (.slice (some ⟨b0, o0, none⟩) 2 c0) ∧ b0 < X.heap.size ∧ X.cell? ⟨b0, o0 + 2, none⟩ = some (.int .i64 0) ∧ X.cell? ⟨b0, o0 + 3, none⟩ = some (.int .i64 4) ∧ X.cell? ⟨b0, o0 + 20 + 2, none⟩ = some (.int .i64 6) ∧ X.cell? ⟨b0, o0 + 20 + 3, none⟩ = some (.int .i64 150) ∧ X.cell? ⟨b0, o0 + 20 + 16, none⟩ = some (.int .i64 3) ∧ X.cell? ⟨b0, o0 + 20 + 17, none⟩ = some (.int .i64 12)
  z2 : ∃ A0 c0, X.cell? ⟨b, off + 16 + 2, none⟩ = some (.slice A0 0 c0)
  z3 : ∃ b0 o0 c0, X.cell? ⟨b, off + 24 + 2, none⟩ = some (.slice (some ⟨b0, o0, none⟩) 1 c0) ∧ b0 < X.heap.size ∧ X.cell? ⟨b0, o0 + 10, none⟩ = some (.int .i64 1) ∧ X.cell? ⟨b0, o0 + 11, none⟩ = some (.int .i64 1)
  z4 : ∃ b0 o0 c0, X.cell? ⟨b, off + 32 + 2, none⟩ = some (.slice (some ⟨b0, o0, none⟩) 1 c0) ∧ b0 < X.heap.size ∧ ∀ j u, (znV limZ)[j]? = some u → X.cell? ⟨b0, o0 + j, none⟩ = some u
theorem ex_cells {X : World} {A : Option Addr} (h : Elems tRl X X.heap.size A exRules) : ∃ b off, A = some ⟨b, off, none⟩ ∧ ExCells X b off := by
  rw [ex_rules] at h
  obtain ⟨b, off, kd0, nm0, A0, zs0, c0, n0, a0, a1, a2, a3, rfl, hb, e0, _, _, r0, _, _, _, _, _, _, _, _, E0, _, _⟩ := pick_rule h (show 0 < _ by decide)
  obtain ⟨b', off', kd1, nm1, A1, zs1, c1, n1, a0', a1', a2', a3', eA, _, e1, _, _, r1, _, _, _, _, _, _, _, _, E1, _, _⟩ := pick_rule h (show 1 < _ by decide)
  cases eA
  obtain ⟨b', off', kd2, nm2, A2, zs2, c2, n2, _, _, _, _, eA, _, e2, _, _, r2, _, _, _, _, _, _, _, _, E2, _, _⟩ := pick_rule h (show 2 < _ by decide)
  cases eA
  obtain ⟨b', off', kd3, nm3, A3, zs3, c3, n3, _, _, _, _, eA, _, e3, _, _, r3, _, _, _, _, _, _, _, _, E3, _, _⟩ := pick_rule h (show 3 < _ by decide)
  cases eA
  obtain ⟨b', off', kd4, nm4, A4, zs4, c4, n4, _, _, _, _, eA, _, e4, _, _, r4, _, _, _, _, _, _, _, _, E4, _, _⟩ := pick_rule h (show 4 < _ by decide)
  cases eA
  have e0 := e0.out
  have e1 := e1.out
  have e2 := e2.out
  have e3 := e3.out
  have e4 := e4.out
  cases e0
  cases e1
  cases e2
  cases e3
  cases e4
  refine ⟨b, off, rfl, hb, ?_, ?_, ⟨A2, c2, r2⟩, ?_, ?_⟩
  · obtain ⟨g, o, z, rfl, hg, hz, _, hc⟩ := pick_zn E0 (show 0 < _ by decide)
    obtain ⟨g', o', z', eA, _, hz', _, hc'⟩ := pick_zn E0 (show 1 < _ by decide)
    cases eA
    have hz := hz.out
    have hz' := hz'.out
    cases hz
    cases hz'
    exact ⟨g, o, c0, r0, hg, hc.out 2 _ rfl, hc.out 3 _ rfl, hc'.out 4 _ rfl, hc'.out 5 _ rfl⟩
  · obtain ⟨g, o, z, rfl, hg, hz, _, hc⟩ := pick_zn E1 (show 0 < _ by decide)
    obtain ⟨g', o', z', eA, _, hz', _, hc'⟩ := pick_zn E1 (show 1 < _ by decide)
    cases eA
    have hz := hz.out
    have hz' := hz'.out
    cases hz
    cases hz'
    exact ⟨g, o, c1, r1, hg, hc.out 2 _ rfl, hc.out 3 _ rfl, hc'.out 2 _ rfl, hc'.out 3 _ rfl, hc'.out 16 _ rfl, hc'.out 17 _ rfl⟩
  · obtain ⟨g, o, z, rfl, hg, hz, _, hc⟩ := pick_zn E3 (show 0 < _ by decide)
    have hz := hz.out
    cases hz
    exact ⟨g, o, c3, r3, hg, hc.out 10 _ rfl, hc.out 11 _ rfl⟩
  · obtain ⟨g, o, z, rfl, hg, hz, _, hc⟩ := pick_zn E4 (show 0 < _ by decide)
    have hz := hz.out
    cases hz
    exact ⟨g, o, c4, r4, hg, fun j u hu => by have := hc.out j u hu; simpa using this⟩
/-- What Compile answers at the example. -/
theorem comp_ex {w w' : World} {e : Ending} (h : CompR w exL exI e w') : ∃ b off c1 A2 c2, e = .returned (.tuple #[.agg #[.slice (some ⟨b, off, none⟩) 5 c1], .slice A2 0 c2]) ∧ ExCells w' b off ∧ Below w.heap.size w w' := by
  obtain ⟨hb, A1, c1, A2, c2, he, h1, _⟩ := h
  obtain ⟨b, off, rfl, hc⟩ := ex_cells h1
  rw [ex_faults, show (rulesP exL exI).length = 5 from ex_lens.1] at he
  exact ⟨b, off, c1, A2, c2, he, hc, hb⟩
theorem comp_ex2 {w w' : World} {e : Ending} (h : CompR w exL exJ e w') : ∃ A1 c1 A2 c2, e = .returned (.tuple #[.agg #[.slice A1 0 c1], .slice A2 3 c2]) ∧ Elems tFa w' w'.heap.size A2 [(8, 7, 9), (10, 7, 8), (9, 7, -1)] ∧ Below w.heap.size w w' := by
  obtain ⟨hb, A1, c1, A2, c2, he, _, h2⟩ := h
  have hr : rulesP exL exJ = [] := by unfold rulesP; rw [ex_faults2]; rfl
  rw [hr, ex_faults2] at he
  rw [ex_faults2] at h2
  exact ⟨A1, c1, A2, c2, he, h2, hb⟩
theorem ExCells.below {X Y : World} {b off : Nat} (h : ExCells X b off) (hb : Below X.heap.size X Y) : ExCells Y b off := by
  have hz := hb.size
  have k : ∀ {b0 o0 : Nat} {v : Value}, b0 < X.heap.size → X.cell? ⟨b0, o0, none⟩ = some v → Y.cell? ⟨b0, o0, none⟩ = some v := fun hl hc => (hb.cell (p := ⟨_, _, none⟩) hl).trans hc
  obtain ⟨h0, ⟨b0, o0, c0, a1, a2, a3, a4, a5, a6⟩, ⟨b1, o1, c1, d1, d2, d3, d4, d5, d6, d7, d8⟩, ⟨A2, c2, e1⟩, ⟨b3, o3, c3, f1, f2, f3, f4⟩, ⟨b4, o4, c4, g1, g2, g3⟩⟩ := h
  exact ⟨by omega, ⟨b0, o0, c0, k h0 a1, by omega, k a2 a3, k a2 a4, k a2 a5, k a2 a6⟩, ⟨b1, o1, c1, k h0 d1, by omega, k d2 d3, k d2 d4, k d2 d5, k d2 d6, k d2 d7, k d2 d8⟩, ⟨A2, c2, k h0 e1⟩, ⟨b3, o3, c3, k h0 f1, by omega, k f2 f3, k f2 f4⟩, ⟨b4, o4, c4, k h0 g1, by omega, fun j u hu => k g2 (g3 j u hu)⟩⟩
theorem far_cell {X : World} {b g i : Nat} {v u : Value} (hne : b ≠ g) (h : X.cell? ⟨b, i, none⟩ = some v) : (X.setCell ⟨g, 0, none⟩ u).cell? ⟨b, i, none⟩ = some v :=
  (World.cell?_of_block (a := ⟨b, i, none⟩) (Below.heap_setCell X ⟨g, 0, none⟩ u b hne)).trans h
theorem ExCells.set {X : World} {b off g t : Nat} {v0 u : Value} (h : ExCells X b off) (hg : Bk X g #[v0] t) : ExCells (X.setCell ⟨g, 0, none⟩ u) b off := by
  have ne : ∀ {b0 i : Nat} {v : Value}, X.cell? ⟨b0, i + 1, none⟩ = some v → b0 ≠ g := fun hc e => by
    subst e
    rw [hg.cell] at hc
    simp at hc
  have k : ∀ {b0 i : Nat} {v : Value}, X.cell? ⟨b0, i + 1, none⟩ = some v → (X.setCell ⟨g, 0, none⟩ u).cell? ⟨b0, i + 1, none⟩ = some v := fun hc => far_cell (ne hc) hc
  have hz : (X.setCell ⟨g, 0, none⟩ u).heap.size = X.heap.size := by simp
  obtain ⟨h0, ⟨b0, o0, c0, a1, a2, a3, a4, a5, a6⟩, ⟨b1, o1, c1, d1, d2, d3, d4, d5, d6, d7, d8⟩, ⟨A2, c2, e1⟩, ⟨b3, o3, c3, f1, f2, f3, f4⟩, ⟨b4, o4, c4, g1, g2, g3⟩⟩ := h
  have n4 : b4 ≠ g := ne (g3 1 _ rfl)
  exact ⟨by omega, ⟨b0, o0, c0, k a1, by omega, k a3, k a4, k a5, k a6⟩, ⟨b1, o1, c1, k d1, by omega, k d3, k d4, k d5, k d6, k d7, k d8⟩, ⟨A2, c2, k e1⟩, ⟨b3, o3, c3, k f1, by omega, k f3, k f4⟩, ⟨b4, o4, c4, k g1, by omega, fun j u hu => far_cell n4 (g3 j u hu)⟩⟩
theorem fa_set {X : World} {B g t : Nat} {A : Option Addr} {fs : List Fa} {v0 u : Value} (h : Elems tFa X B A fs) (hg : Bk X g #[v0] t) : Elems tFa (X.setCell ⟨g, 0, none⟩ u) B A fs := by
  intro i hi
  obtain ⟨b, off, cs, hA, hb, hr, hc⟩ := h i hi
  have hne : b ≠ g := fun e => by
    subst e
    obtain ⟨c1, r1, rfl, ⟨rfl, _⟩, ⟨c2, r2, rfl, ⟨rfl, _⟩, ⟨rfl, _⟩⟩⟩ := hr
    have h1 := hc 1 _ rfl
    rw [hg.cell] at h1
    simp at h1
  exact ⟨b, off, cs, hA, hb, hr, fun j u9 hu => far_cell hne (hc j u9 hu)⟩
theorem mem_below {X w' : World} (h : Below X.heap.size X w') : (fun w' => ∃ u, w' = ext X u) w' := by
  obtain ⟨u, hu⟩ := ext_of h
  exact ⟨u, hu.symm⟩
end Go.Proofs.Ytecjhniomjmocaa
