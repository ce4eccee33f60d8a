/- Layer 2 (digest), in plain words: the digest of a text, of a list, and the chain of digests. No program is named here. -/
import Derived.Test.YtojkpoikamcgkaaDoorOnly
import Derived.Lib.ItoaNum
namespace Go.Proofs.YtojkpoikamcgkaaDoor
set_option linter.unusedVariables false
set_option linter.unusedSimpArgs false

def W64 : Nat := 18446744073709551616
/-- The mixing of a number. -/
def mixN (x : Nat) : Nat :=
  let y := (x ^^^ (x / 4294967296)) * 11400714819323198485 % 18446744073709551616
  let z := (y ^^^ (y / 536870912)) * 13787848793156543929 % 18446744073709551616
  z ^^^ (z / 4294967296)
theorem xor_lt {a b : Nat} (ha : a < 18446744073709551616) (hb : b < 18446744073709551616) : a ^^^ b < 18446744073709551616 := Nat.xor_lt_two_pow (n := 64) ha hb
theorem or_lt {a b : Nat} (ha : a < 18446744073709551616) (hb : b < 18446744073709551616) : a ||| b < 18446744073709551616 := Nat.or_lt_two_pow (n := 64) ha hb
theorem div_lt64 {a : Nat} (b : Nat) (ha : a < 18446744073709551616) : a / b < 18446744073709551616 := Nat.lt_of_le_of_lt (Nat.div_le_self _ _) ha
theorem mod_lt64 (a : Nat) : a % 18446744073709551616 < 18446744073709551616 := Nat.mod_lt _ (by decide)
theorem mixN_lt (x : Nat) : mixN x < 18446744073709551616 := by
  unfold mixN
  exact xor_lt (mod_lt64 _) (div_lt64 _ (mod_lt64 _))
/-- The state of a digest: the number, the block, how many bytes it has. -/
abbrev Dg := Nat × Nat × Nat
def addD (d : Dg) (c : Nat) : Dg := if d.2.2 + 1 = 8 then (mixN (d.1 ^^^ (d.2.1 ||| (c * 2 ^ (8 * d.2.2) % 18446744073709551616))), 0, 0) else (d.1, d.2.1 ||| (c * 2 ^ (8 * d.2.2) % 18446744073709551616), d.2.2 + 1)
def padD : Nat → Dg → Dg
  | 0, d => d
  | k + 1, d => if d.2.2 = 0 then d else padD k (addD d 0)
def startD : Dg := (7046029254386353131, 0, 0)
def okD (d : Dg) : Prop := d.1 < 18446744073709551616 ∧ d.2.1 < 18446744073709551616 ∧ d.2.2 < 8
theorem addD_ok {d : Dg} {c : Nat} (h : okD d) : okD (addD d c) := by
  obtain ⟨h1, h2, h3⟩ := h
  unfold addD
  split
  · exact ⟨mixN_lt _, by simp, by simp⟩
  · exact ⟨h1, or_lt h2 (mod_lt64 _), by show d.2.2 + 1 < 8; omega⟩
theorem startD_ok : okD startD := ⟨by simp [startD], by simp [startD], by simp [startD]⟩
theorem fold_ok {l : List UInt8} : ∀ {d : Dg}, okD d → okD (l.foldl (fun d c => addD d c.toNat) d) := by
  induction l with
  | nil => exact fun h => h
  | cons c l ih => exact fun h => ih (addD_ok h)
def sumN (l : List UInt8) : Nat := (padD 8 (addD (l.foldl (fun d c => addD d c.toNat) startD) 1)).1
def hexC (n : Nat) : UInt8 := ([48, 49, 50, 51, 52, 53, 54, 55, 56, 57, 97, 98, 99, 100, 101, 102] : List UInt8).getD n 48
def hexL (n : Nat) : List UInt8 := (List.range 16).map fun i => hexC (n / 2 ^ (60 - 4 * i) % 16)
/-- The digest of a text. -/
def sumL (l : List UInt8) : List UInt8 := hexL (sumN l)
def chainL : Nat → List UInt8 → List UInt8
  | 0, l => l
  | n + 1, l => chainL n (sumL l)
theorem chainL_add (a b : Nat) (l : List UInt8) : chainL (a + b) l = chainL b (chainL a l) := by
  induction a generalizing l with
  | zero => simp [chainL]
  | succ a ih => rw [show a + 1 + b = (a + b) + 1 by omega, chainL, chainL, ih]
theorem chainL_succ (n : Nat) (l : List UInt8) : chainL (n + 1) l = sumL (chainL n l) := by rw [chainL_add]; rfl
/-- The joined text of a list. -/
def joinL (ls : List (List UInt8)) : List UInt8 := ls.flatMap fun l => Lib.itoa l.length ++ 58 :: l
def listL (ls : List (List UInt8)) : List UInt8 := sumL (joinL ls)
theorem sumL_len (l : List UInt8) : (sumL l).length = 16 := by simp [sumL, hexL]
theorem fold_take {l : List UInt8} {k : Nat} {c : UInt8} (h : l[k]? = some c) (d : Dg) : (l.take (k + 1)).foldl (fun d c => addD d c.toNat) d = addD ((l.take k).foldl (fun d c => addD d c.toNat) d) c.toNat := by
  rw [List.take_add_one, h, List.foldl_append]
  rfl
def hexV : List UInt8 := [48, 49, 50, 51, 52, 53, 54, 55, 56, 57, 97, 98, 99, 100, 101, 102]
/-- Whether a text has the form of a digest. -/
def isL (l : List UInt8) : Bool := decide (l.length = 16) && l.all fun c => hexV.contains c
theorem hexC_in (n : Nat) : hexV.contains (hexC n) = true := by
  unfold hexC
  rcases Nat.lt_or_ge n 16 with h | h
  · have : ∀ k : Fin 16, hexV.contains (([48, 49, 50, 51, 52, 53, 54, 55, 56, 57, 97, 98, 99, 100, 101, 102] : List UInt8).getD k.1 48) = true := by decide
    exact this ⟨n, h⟩
  · rw [List.getD_eq_getElem?_getD, List.getElem?_eq_none (by simpa using h)]
    decide
theorem sumL_is (l : List UInt8) : isL (sumL l) = true := by
  unfold isL
  rw [sumL_len]
  simp only [decide_true, Bool.true_and, List.all_eq_true]
  intro c hc
  unfold sumL hexL at hc
  obtain ⟨i, _, rfl⟩ := List.mem_map.1 hc
  exact hexC_in _
end Go.Proofs.YtojkpoikamcgkaaDoor
