/- Layer 12 (resolve), in plain words: names, tests, zones, faults. No program is named here. -/
import Derived.Test.YtecjhniomjmocaaDecP
namespace Go.Proofs.Ytecjhniomjmocaa
open Go.RowKit
set_option linter.unusedVariables false
set_option linter.unusedSimpArgs false

/-- A test: attribute, operation, name, N, At. -/
abbrev Ts := ByteArray × Int × ByteArray × Int × Int
/-- An item: kind, name, alternatives, N, R, S, At. -/
abbrev It := Int × ByteArray × List (List Ts) × Int × (Int × Int) × (Int × Int) × Int
def noName : ByteArray := ⟨#[]⟩
def dotB : ByteArray := ⟨#[46]⟩
def attrsN : List ByteArray := [⟨#[116, 105, 109, 101]⟩, ⟨#[97, 103, 101]⟩, ⟨#[109, 101, 109, 98, 101, 114]⟩, ⟨#[115, 104, 111, 119]⟩, ⟨#[108, 101, 118, 101, 108]⟩, ⟨#[98, 108, 111, 99, 107]⟩, ⟨#[107, 105, 110, 100]⟩, ⟨#[118, 105, 101, 119]⟩, ⟨#[115, 105, 122, 101]⟩, ⟨#[104, 101, 108, 100]⟩]
def kindsN : List ByteArray := [⟨#[115, 101, 97, 116]⟩, ⟨#[119, 104, 101, 101, 108]⟩, ⟨#[98, 101, 115, 105, 100, 101]⟩, ⟨#[115, 116, 97, 110, 100]⟩]
/-- The number of the first that is the same. -/
def idxB (s : ByteArray) : List ByteArray → Option Nat
  | [] => none
  | x :: l => if s = x then some 0 else (idxB s l).map (· + 1)
/-- The names of a hall: its levels, and its blocks and areas. -/
abbrev Nm := List ByteArray × List ByteArray
def tableN (L : Nm) (a : Nat) : List ByteArray := if a = 4 then L.1 else if a = 5 then L.2 else kindsN
/-- The error, the attribute and the number of a test. -/
def numP (L : Nm) (t : Ts) : Int × Nat × Int :=
  match idxB t.1 attrsN with
  | none => (8, 0, 0)
  | some a =>
    if t.2.1 < 1 ∨ 6 < t.2.1 ∨ (t.2.2.1 ≠ noName ∧ ¬ (a = 4 ∨ a = 5 ∨ a = 6)) then (10, 0, 0)
    else match (if t.2.2.1 = noName then some t.2.2.2.1 else (idxB t.2.2.1 (tableN L a)).map fun (n : Nat) => (n : Int)) with
      | none => (8, 0, 0)
      | some n => if n < 0 ∨ 1000000000 < n then (2, 0, 0) else (0, a, n)
def candP (r : Rg) (op n : Int) : List Rg :=
  if op = 1 then [(max r.1 n, min r.2 n)] else if op = 2 then [(r.1, min r.2 (n - 1)), (max r.1 (n + 1), r.2)] else if op = 3 then [(r.1, min r.2 (n - 1))]
  else if op = 4 then [(r.1, min r.2 n)] else if op = 5 then [(max r.1 (n + 1), r.2)] else if op = 6 then [(max r.1 n, r.2)] else []
def withinP (r : Rg) (op n : Int) : List Rg := (candP r op n).filter fun r => decide (r.1 ≤ r.2)
def stepZ (z : Zn) (a : Nat) (op n : Int) : List Zn := (withinP (atR z a) op n).map fun r => z.set a r
def limZ : Zn := [(0, 1000000000), (0, 150), (0, 1), (0, 19), (0, 7), (0, 319), (0, 3), (0, 3), (1, 12), (0, 100)]
def nextZ (L : Nm) (out : List Zn) (t : Ts) : List Zn := out.flatMap fun z => stepZ z (numP L t).2.1 t.2.1 (numP L t).2.2
def zonesP (L : Nm) (l : List Ts) : List Zn := l.foldl (nextZ L) [limZ]
def zonesI (L : Nm) (x : It) : List Zn := if x.2.2.1 = [] then [limZ] else x.2.2.1.flatMap (zonesP L)
def ratioP (r : Int × Int) (has : Bool) (most : Int) : Bool :=
  if has then decide (1 ≤ r.2) && decide (r.2 ≤ 1000000) && decide (0 ≤ r.1) && decide (r.1 ≤ most * r.2) && decide (r.1 ≤ 1000000) else decide (r = (0, 0))
def mostP (k : Int) : Int := if k = 1 then 100 else if k = 3 then 10000000 else 0
def inRangeP (x : It) : Bool :=
  decide (0 ≤ x.2.2.2.1) && decide (x.2.2.2.1 ≤ mostP x.1) && ratioP x.2.2.2.2.1 (decide (x.1 = 3) || decide (x.1 = 4) || decide (x.1 = 5)) (if x.1 = 4 then 10 else 1) && ratioP x.2.2.2.2.2.1 (decide (x.1 = 3) || decide (x.1 = 4)) 1
/-- The first test of some with an error: the error and its At; (0, _) if there is none. -/
def badT (L : Nm) : List Ts → Option (Int × Int)
  | [] => none
  | t :: l => if (numP L t).1 = 0 then badT L l else some ((numP L t).1, t.2.2.2.2)
def badW (L : Nm) : List (List Ts) → Option (Int × Int)
  | [] => none
  | l :: r => match badT L l with
    | some e => some e
    | none => badW L r
/-- The fault of an item: the error (0 for none) and the test in question. -/
def faultI (L : Nm) (twice : Bool) (x : It) : Int × Int :=
  if twice = true then (9, -1) else if x.1 < 1 ∨ 7 < x.1 then (10, -1) else if inRangeP x = false then (2, -1)
  else match badW L x.2.2.1 with
    | some e => e
    | none => if 200 < (zonesI L x).length then (3, -1) else (0, 0)
def ruleI (L : Nm) (x : It) : Rl := (x.1, x.2.1, zonesI L x, x.2.2.2.1, x.2.2.2.2.1, x.2.2.2.2.2.1)
def zeroRl : Rl := (0, noName, [], 0, (0, 0), (0, 0))
def twiceP (l : List It) (i : Nat) (x : It) : Bool := (l.take i).any fun y => decide (y.2.1 = x.2.1)
abbrev Fa := Int × Int × Int
def faultsTo (L : Nm) (l : List It) : Nat → List Fa
  | 0 => []
  | i + 1 => faultsTo L l i ++ match l[i]? with
    | none => []
    | some x => if (faultI L (twiceP l i x) x).1 = 0 then [] else [((faultI L (twiceP l i x) x).1, x.2.2.2.2.2.2, (faultI L (twiceP l i x) x).2)]
def rulesTo (L : Nm) (l : List It) : Nat → List Rl
  | 0 => []
  | i + 1 => rulesTo L l i ++ match l[i]? with
    | none => []
    | some x => [if (faultI L (twiceP l i x) x).1 = 0 then ruleI L x else zeroRl]
def faultsP (L : Nm) (l : List It) : List Fa := faultsTo L l (min l.length 200) ++ match l[200]? with
  | none => []
  | some x => [(3, x.2.2.2.2.2.2, -1)]
def rulesP (L : Nm) (l : List It) : List Rl := if faultsP L l = [] then rulesTo L l l.length else []
end Go.Proofs.Ytecjhniomjmocaa
