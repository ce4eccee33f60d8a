/-
  No cell of these rows narrows 'for every input' (looked for: loops, veiled, ifaces, maps, wideKeys, modest, calm, conditions, laid).
  DERIVED. THE GIVEN ROWS OF THIS SEAT. 6 by the template 'for every input the law returns true; each argument reads behind the call as it read before'; 0 by the template 'total and deterministic' (their statements: YthgiopgapkjleaaTotals.lean).
  GIVEN WITH THE SEED: the statements are not yours to turn. If you find one false, say at which input.
  Laid BY PROGRAM, IN A SANDBOX (cutbox-rows.mjs): the forced cells as the released guide's own fill.sh prints them over the translation 7f1cb2f4ff8f21db… (all of the seat's roots in one cut). By AI agents, Wed Nov 11 2026. No macro, syntax, notation, axiom, sorry.
-/
import Derived.Test.YthgiopgapkjleaaChecked
import GoSem.Claim
import GoSem.ClaimJoined
import GoSem.ClaimMapViews
import Derived.JoinedTies
import Derived.KernelRfl
namespace Go.Proofs.Ythgiopgapkjleaa
/- THE CELL 'sum', in the pinned program and in every row, IS THE sha256 OF THE DUMP (.gsa) THAT YthgiopgapkjleaaProg.lean LOADS. Nothing in Lean hashes anything: it is a label: what it is worth is what the hold of that sum in a sandbox is worth. -/
noncomputable def Try.pinned : Pinned := { name := "ythgiopgapkjleaa", sum := "7f1cb2f4ff8f21dbad7c6d8b31aeb74d5847fae97be13cc984be18579401ddbf", checked := Try.checked }
namespace Rows
def none {H : Type} : Left H := { results := [], args := [] }

/-- 'foyerlaw28.PayMatchesReference': WHATEVER THE INPUT: true; the input reads as it did. -/
def payMatchesReferenceSpec : ChangeSpec := { name := "payMatchesReference", fn := fun _ => fun
  | [d1, d2, d3, d4] => { results := [.lit (.bool true)], args := [d1, d2, d3, d4] }
  | _ => none }
def payMatchesReferenceRow : OpenClaim := { program := "ythgiopgapkjleaa", sum := "7f1cb2f4ff8f21dbad7c6d8b31aeb74d5847fae97be13cc984be18579401ddbf", func := "foyer/foyerlaw28.PayMatchesReference", spec := "payMatchesReference", unfollowed := true, recurses := true, apart := false }
def PayMatchesReferenceSaid : Prop := payMatchesReferenceRow.holds Try.pinned (OpenSpec.ofChange payMatchesReferenceSpec)

/-- ITS FALSE NEIGHBOUR: 'it returns false'. Refute it at one input. -/
def payMatchesReferenceWrong : ChangeSpec := { name := "payMatchesReference", fn := fun _ => fun
  | [d1, d2, d3, d4] => { results := [.lit (.bool false)], args := [d1, d2, d3, d4] }
  | _ => none }
def PayMatchesReferenceWrongFalsely : Prop := payMatchesReferenceRow.holds Try.pinned (OpenSpec.ofChange payMatchesReferenceWrong)

/-- 'foyerlaw28.PayMoney': WHATEVER THE INPUT: true; the input reads as it did. -/
def payMoneySpec : ChangeSpec := { name := "payMoney", fn := fun _ => fun
  | [d1, d2, d3] => { results := [.lit (.bool true)], args := [d1, d2, d3] }
  | _ => none }
def payMoneyRow : OpenClaim := { program := "ythgiopgapkjleaa", sum := "7f1cb2f4ff8f21dbad7c6d8b31aeb74d5847fae97be13cc984be18579401ddbf", func := "foyer/foyerlaw28.PayMoney", spec := "payMoney", unfollowed := true, recurses := true, apart := false }
def PayMoneySaid : Prop := payMoneyRow.holds Try.pinned (OpenSpec.ofChange payMoneySpec)

/-- ITS FALSE NEIGHBOUR: 'it returns false'. Refute it at one input. -/
def payMoneyWrong : ChangeSpec := { name := "payMoney", fn := fun _ => fun
  | [d1, d2, d3] => { results := [.lit (.bool false)], args := [d1, d2, d3] }
  | _ => none }
def PayMoneyWrongFalsely : Prop := payMoneyRow.holds Try.pinned (OpenSpec.ofChange payMoneyWrong)

/-- 'foyerlaw28.PayStates': WHATEVER THE INPUT: true; the input reads as it did. -/
def payStatesSpec : ChangeSpec := { name := "payStates", fn := fun _ => fun
  | [d1, d2] => { results := [.lit (.bool true)], args := [d1, d2] }
  | _ => none }
def payStatesRow : OpenClaim := { program := "ythgiopgapkjleaa", sum := "7f1cb2f4ff8f21dbad7c6d8b31aeb74d5847fae97be13cc984be18579401ddbf", func := "foyer/foyerlaw28.PayStates", spec := "payStates", unfollowed := true, recurses := true, apart := false }
def PayStatesSaid : Prop := payStatesRow.holds Try.pinned (OpenSpec.ofChange payStatesSpec)

/-- ITS FALSE NEIGHBOUR: 'it returns false'. Refute it at one input. -/
def payStatesWrong : ChangeSpec := { name := "payStates", fn := fun _ => fun
  | [d1, d2] => { results := [.lit (.bool false)], args := [d1, d2] }
  | _ => none }
def PayStatesWrongFalsely : Prop := payStatesRow.holds Try.pinned (OpenSpec.ofChange payStatesWrong)

/-- 'foyerlaw28.PayAgain': WHATEVER THE INPUT: true; the input reads as it did. -/
def payAgainSpec : ChangeSpec := { name := "payAgain", fn := fun _ => fun
  | [d1, d2] => { results := [.lit (.bool true)], args := [d1, d2] }
  | _ => none }
def payAgainRow : OpenClaim := { program := "ythgiopgapkjleaa", sum := "7f1cb2f4ff8f21dbad7c6d8b31aeb74d5847fae97be13cc984be18579401ddbf", func := "foyer/foyerlaw28.PayAgain", spec := "payAgain", unfollowed := true, recurses := true, apart := false }
def PayAgainSaid : Prop := payAgainRow.holds Try.pinned (OpenSpec.ofChange payAgainSpec)

/-- ITS FALSE NEIGHBOUR: 'it returns false'. Refute it at one input. -/
def payAgainWrong : ChangeSpec := { name := "payAgain", fn := fun _ => fun
  | [d1, d2] => { results := [.lit (.bool false)], args := [d1, d2] }
  | _ => none }
def PayAgainWrongFalsely : Prop := payAgainRow.holds Try.pinned (OpenSpec.ofChange payAgainWrong)

/-- 'foyerlaw28.PayTimes': WHATEVER THE INPUT: true; the input reads as it did. -/
def payTimesSpec : ChangeSpec := { name := "payTimes", fn := fun _ => fun
  | [d1, d2] => { results := [.lit (.bool true)], args := [d1, d2] }
  | _ => none }
def payTimesRow : OpenClaim := { program := "ythgiopgapkjleaa", sum := "7f1cb2f4ff8f21dbad7c6d8b31aeb74d5847fae97be13cc984be18579401ddbf", func := "foyer/foyerlaw28.PayTimes", spec := "payTimes", unfollowed := true, recurses := true, apart := false }
def PayTimesSaid : Prop := payTimesRow.holds Try.pinned (OpenSpec.ofChange payTimesSpec)

/-- ITS FALSE NEIGHBOUR: 'it returns false'. Refute it at one input. -/
def payTimesWrong : ChangeSpec := { name := "payTimes", fn := fun _ => fun
  | [d1, d2] => { results := [.lit (.bool false)], args := [d1, d2] }
  | _ => none }
def PayTimesWrongFalsely : Prop := payTimesRow.holds Try.pinned (OpenSpec.ofChange payTimesWrong)

/-- 'foyerlaw28.PayAttempts': WHATEVER THE INPUT: true; the input reads as it did. -/
def payAttemptsSpec : ChangeSpec := { name := "payAttempts", fn := fun _ => fun
  | [d1, d2] => { results := [.lit (.bool true)], args := [d1, d2] }
  | _ => none }
def payAttemptsRow : OpenClaim := { program := "ythgiopgapkjleaa", sum := "7f1cb2f4ff8f21dbad7c6d8b31aeb74d5847fae97be13cc984be18579401ddbf", func := "foyer/foyerlaw28.PayAttempts", spec := "payAttempts", unfollowed := true, recurses := true, apart := false }
def PayAttemptsSaid : Prop := payAttemptsRow.holds Try.pinned (OpenSpec.ofChange payAttemptsSpec)

/-- ITS FALSE NEIGHBOUR: 'it returns false'. Refute it at one input. -/
def payAttemptsWrong : ChangeSpec := { name := "payAttempts", fn := fun _ => fun
  | [d1, d2] => { results := [.lit (.bool false)], args := [d1, d2] }
  | _ => none }
def PayAttemptsWrongFalsely : Prop := payAttemptsRow.holds Try.pinned (OpenSpec.ofChange payAttemptsWrong)

/- THE SECOND FORM. 'bulk': how many values and letters a reading holds, each counted each time it is reached (what is shared counts as often as it is met; a slice's spare places count too). A statement '..UptoSaid' is the law's where the arguments, and the package variables that the reading takes, are together of bulk at most 1048576: NARROWER than '..Said'. Prove '..Said' where nothing that the law and all that it calls make is longer than what came in: it says more and counts as full. Else prove '..UptoSaid'. A law counts once. -/
mutual
def uptoBulk {H : Type} : DataW H → Nat
  | .lit (.string bytes) => bytes.length + 1
  | .lit _ => 1
  | .nil => 1
  | .ptr d => uptoBulk d + 1
  | .slice elems spare => uptoBulkAll elems + uptoBulkAll spare + 1
  | .agg parts => uptoBulkAll parts + 1
  | .iface _ d => uptoBulk d + 1
  | .map entries => uptoBulkEntries entries + 1
  | .held _ => 1
def uptoBulkAll {H : Type} : List (DataW H) → Nat
  | [] => 0
  | d :: r => uptoBulk d + uptoBulkAll r
def uptoBulkEntries {H : Type} : List (Lit × DataW H) → Nat
  | [] => 0
  | x :: r => uptoBulkEntry x + uptoBulkEntries r
def uptoBulkEntry {H : Type} : Lit × DataW H → Nat
  | (.string bytes, d) => bytes.length + uptoBulk d + 1
  | (_, d) => uptoBulk d + 1
 end
def uptoSmall : (H : Type) → List (DataW H) → Bool := fun _ ds => decide (uptoBulkAll ds ≤ 1048576)
def OpenSpec.upto (s : _root_.Go.ChangeSpec) : _root_.Go.OpenSpec := { _root_.Go.OpenSpec.ofChange s with cond := some uptoSmall }

/-- 'foyerlaw28.PayMatchesReference', WHERE WHAT IT READS IS OF BULK AT MOST 1048576: true; the input reads as it did. -/
def payMatchesReferenceUptoRow : OpenClaim := { program := "ythgiopgapkjleaa", sum := "7f1cb2f4ff8f21dbad7c6d8b31aeb74d5847fae97be13cc984be18579401ddbf", func := "foyer/foyerlaw28.PayMatchesReference", spec := "payMatchesReference", unfollowed := true, recurses := true, apart := false, narrowed := true }
def PayMatchesReferenceUptoSaid : Prop := payMatchesReferenceUptoRow.holds Try.pinned (OpenSpec.upto payMatchesReferenceSpec)

/-- 'foyerlaw28.PayMoney', WHERE WHAT IT READS IS OF BULK AT MOST 1048576: true; the input reads as it did. -/
def payMoneyUptoRow : OpenClaim := { program := "ythgiopgapkjleaa", sum := "7f1cb2f4ff8f21dbad7c6d8b31aeb74d5847fae97be13cc984be18579401ddbf", func := "foyer/foyerlaw28.PayMoney", spec := "payMoney", unfollowed := true, recurses := true, apart := false, narrowed := true }
def PayMoneyUptoSaid : Prop := payMoneyUptoRow.holds Try.pinned (OpenSpec.upto payMoneySpec)

/-- 'foyerlaw28.PayStates', WHERE WHAT IT READS IS OF BULK AT MOST 1048576: true; the input reads as it did. -/
def payStatesUptoRow : OpenClaim := { program := "ythgiopgapkjleaa", sum := "7f1cb2f4ff8f21dbad7c6d8b31aeb74d5847fae97be13cc984be18579401ddbf", func := "foyer/foyerlaw28.PayStates", spec := "payStates", unfollowed := true, recurses := true, apart := false, narrowed := true }
def PayStatesUptoSaid : Prop := payStatesUptoRow.holds Try.pinned (OpenSpec.upto payStatesSpec)

/-- 'foyerlaw28.PayAgain', WHERE WHAT IT READS IS OF BULK AT MOST 1048576: true; the input reads as it did. -/
def payAgainUptoRow : OpenClaim := { program := "ythgiopgapkjleaa", sum := "7f1cb2f4ff8f21dbad7c6d8b31aeb74d5847fae97be13cc984be18579401ddbf", func := "foyer/foyerlaw28.PayAgain", spec := "payAgain", unfollowed := true, recurses := true, apart := false, narrowed := true }
def PayAgainUptoSaid : Prop := payAgainUptoRow.holds Try.pinned (OpenSpec.upto payAgainSpec)

/-- 'foyerlaw28.PayTimes', WHERE WHAT IT READS IS OF BULK AT MOST 1048576: true; the input reads as it did. -/
def payTimesUptoRow : OpenClaim := { program := "ythgiopgapkjleaa", sum := "7f1cb2f4ff8f21dbad7c6d8b31aeb74d5847fae97be13cc984be18579401ddbf", func := "foyer/foyerlaw28.PayTimes", spec := "payTimes", unfollowed := true, recurses := true, apart := false, narrowed := true }
def PayTimesUptoSaid : Prop := payTimesUptoRow.holds Try.pinned (OpenSpec.upto payTimesSpec)

/-- 'foyerlaw28.PayAttempts', WHERE WHAT IT READS IS OF BULK AT MOST 1048576: true; the input reads as it did. -/
def payAttemptsUptoRow : OpenClaim := { program := "ythgiopgapkjleaa", sum := "7f1cb2f4ff8f21dbad7c6d8b31aeb74d5847fae97be13cc984be18579401ddbf", func := "foyer/foyerlaw28.PayAttempts", spec := "payAttempts", unfollowed := true, recurses := true, apart := false, narrowed := true }
def PayAttemptsUptoSaid : Prop := payAttemptsUptoRow.holds Try.pinned (OpenSpec.upto payAttemptsSpec)

end Rows
end Go.Proofs.Ythgiopgapkjleaa
