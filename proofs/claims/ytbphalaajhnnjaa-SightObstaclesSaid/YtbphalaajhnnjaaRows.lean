/-
  No cell of these rows narrows 'for every input' (looked for: loops, veiled, ifaces, maps, wideKeys, modest, calm, conditions, laid).
  DERIVED. THE GIVEN ROWS OF THIS SEAT. 6 by the template 'for every input the law returns true; each argument reads behind the call as it read before'; 0 by the template 'total and deterministic' (their statements: YtbphalaajhnnjaaTotals.lean).
  GIVEN WITH THE SEED: the statements are not yours to turn. If you find one false, say at which input.
  Laid BY PROGRAM, IN A SANDBOX (cutbox-rows.mjs): the forced cells as the released guide's own fill.sh prints them over the translation c131c5d0de41f177… (all of the seat's roots in one cut). By AI agents, Wed Nov 11 2026. No macro, syntax, notation, axiom, sorry.
-/
import Derived.Test.YtbphalaajhnnjaaChecked
import GoSem.Claim
import GoSem.ClaimJoined
import GoSem.ClaimMapViews
import Derived.JoinedTies
import Derived.KernelRfl
namespace Go.Proofs.Ytbphalaajhnnjaa
/- THE CELL 'sum', in the pinned program and in every row, IS THE sha256 OF THE DUMP (.gsa) THAT YtbphalaajhnnjaaProg.lean LOADS. Nothing in Lean hashes anything: it is a label: what it is worth is what the hold of that sum in a sandbox is worth. -/
noncomputable def Try.pinned : Pinned := { name := "ytbphalaajhnnjaa", sum := "c131c5d0de41f177df1497d80aba696de6844ea557d940822ce9dd40b2d30265", checked := Try.checked }
namespace Rows
def none {H : Type} : Left H := { results := [], args := [] }

/-- 'foyerlaw09.SightMatchesReference': WHATEVER THE INPUT: true; the input reads as it did. -/
def sightMatchesReferenceSpec : ChangeSpec := { name := "sightMatchesReference", fn := fun _ => fun
  | [d1, d2, d3, d4, d5] => { results := [.lit (.bool true)], args := [d1, d2, d3, d4, d5] }
  | _ => none }
def sightMatchesReferenceRow : OpenClaim := { program := "ytbphalaajhnnjaa", sum := "c131c5d0de41f177df1497d80aba696de6844ea557d940822ce9dd40b2d30265", func := "foyer/foyerlaw09.SightMatchesReference", spec := "sightMatchesReference", unfollowed := true, recurses := true, apart := false }
def SightMatchesReferenceSaid : Prop := sightMatchesReferenceRow.holds Try.pinned (OpenSpec.ofChange sightMatchesReferenceSpec)

/-- ITS FALSE NEIGHBOUR: 'it returns false'. Refute it at one input. -/
def sightMatchesReferenceWrong : ChangeSpec := { name := "sightMatchesReference", fn := fun _ => fun
  | [d1, d2, d3, d4, d5] => { results := [.lit (.bool false)], args := [d1, d2, d3, d4, d5] }
  | _ => none }
def SightMatchesReferenceWrongFalsely : Prop := sightMatchesReferenceRow.holds Try.pinned (OpenSpec.ofChange sightMatchesReferenceWrong)

/-- 'foyerlaw09.SightSymmetric': WHATEVER THE INPUT: true; the input reads as it did. -/
def sightSymmetricSpec : ChangeSpec := { name := "sightSymmetric", fn := fun _ => fun
  | [d] => { results := [.lit (.bool true)], args := [d] }
  | _ => none }
def sightSymmetricRow : OpenClaim := { program := "ytbphalaajhnnjaa", sum := "c131c5d0de41f177df1497d80aba696de6844ea557d940822ce9dd40b2d30265", func := "foyer/foyerlaw09.SightSymmetric", spec := "sightSymmetric", unfollowed := true, recurses := true, apart := false }
def SightSymmetricSaid : Prop := sightSymmetricRow.holds Try.pinned (OpenSpec.ofChange sightSymmetricSpec)

/-- ITS FALSE NEIGHBOUR: 'it returns false'. Refute it at one input. -/
def sightSymmetricWrong : ChangeSpec := { name := "sightSymmetric", fn := fun _ => fun
  | [d] => { results := [.lit (.bool false)], args := [d] }
  | _ => none }
def SightSymmetricWrongFalsely : Prop := sightSymmetricRow.holds Try.pinned (OpenSpec.ofChange sightSymmetricWrong)

/-- 'foyerlaw09.SightMoves': WHATEVER THE INPUT: true; the input reads as it did. -/
def sightMovesSpec : ChangeSpec := { name := "sightMoves", fn := fun _ => fun
  | [d1, d2, d3] => { results := [.lit (.bool true)], args := [d1, d2, d3] }
  | _ => none }
def sightMovesRow : OpenClaim := { program := "ytbphalaajhnnjaa", sum := "c131c5d0de41f177df1497d80aba696de6844ea557d940822ce9dd40b2d30265", func := "foyer/foyerlaw09.SightMoves", spec := "sightMoves", unfollowed := true, recurses := true, apart := false }
def SightMovesSaid : Prop := sightMovesRow.holds Try.pinned (OpenSpec.ofChange sightMovesSpec)

/-- ITS FALSE NEIGHBOUR: 'it returns false'. Refute it at one input. -/
def sightMovesWrong : ChangeSpec := { name := "sightMoves", fn := fun _ => fun
  | [d1, d2, d3] => { results := [.lit (.bool false)], args := [d1, d2, d3] }
  | _ => none }
def SightMovesWrongFalsely : Prop := sightMovesRow.holds Try.pinned (OpenSpec.ofChange sightMovesWrong)

/-- 'foyerlaw09.SightContains': WHATEVER THE INPUT: true; the input reads as it did. -/
def sightContainsSpec : ChangeSpec := { name := "sightContains", fn := fun _ => fun
  | [d1, d2] => { results := [.lit (.bool true)], args := [d1, d2] }
  | _ => none }
def sightContainsRow : OpenClaim := { program := "ytbphalaajhnnjaa", sum := "c131c5d0de41f177df1497d80aba696de6844ea557d940822ce9dd40b2d30265", func := "foyer/foyerlaw09.SightContains", spec := "sightContains", unfollowed := true, recurses := true, apart := false }
def SightContainsSaid : Prop := sightContainsRow.holds Try.pinned (OpenSpec.ofChange sightContainsSpec)

/-- ITS FALSE NEIGHBOUR: 'it returns false'. Refute it at one input. -/
def sightContainsWrong : ChangeSpec := { name := "sightContains", fn := fun _ => fun
  | [d1, d2] => { results := [.lit (.bool false)], args := [d1, d2] }
  | _ => none }
def SightContainsWrongFalsely : Prop := sightContainsRow.holds Try.pinned (OpenSpec.ofChange sightContainsWrong)

/-- 'foyerlaw09.SightDivides': WHATEVER THE INPUT: true; the input reads as it did. -/
def sightDividesSpec : ChangeSpec := { name := "sightDivides", fn := fun _ => fun
  | [d1, d2, d3] => { results := [.lit (.bool true)], args := [d1, d2, d3] }
  | _ => none }
def sightDividesRow : OpenClaim := { program := "ytbphalaajhnnjaa", sum := "c131c5d0de41f177df1497d80aba696de6844ea557d940822ce9dd40b2d30265", func := "foyer/foyerlaw09.SightDivides", spec := "sightDivides", unfollowed := true, recurses := true, apart := false }
def SightDividesSaid : Prop := sightDividesRow.holds Try.pinned (OpenSpec.ofChange sightDividesSpec)

/-- ITS FALSE NEIGHBOUR: 'it returns false'. Refute it at one input. -/
def sightDividesWrong : ChangeSpec := { name := "sightDivides", fn := fun _ => fun
  | [d1, d2, d3] => { results := [.lit (.bool false)], args := [d1, d2, d3] }
  | _ => none }
def SightDividesWrongFalsely : Prop := sightDividesRow.holds Try.pinned (OpenSpec.ofChange sightDividesWrong)

/-- 'foyerlaw09.SightObstacles': WHATEVER THE INPUT: true; the input reads as it did. -/
def sightObstaclesSpec : ChangeSpec := { name := "sightObstacles", fn := fun _ => fun
  | [d1, d2, d3, d4, d5] => { results := [.lit (.bool true)], args := [d1, d2, d3, d4, d5] }
  | _ => none }
def sightObstaclesRow : OpenClaim := { program := "ytbphalaajhnnjaa", sum := "c131c5d0de41f177df1497d80aba696de6844ea557d940822ce9dd40b2d30265", func := "foyer/foyerlaw09.SightObstacles", spec := "sightObstacles", unfollowed := true, recurses := true, apart := false }
def SightObstaclesSaid : Prop := sightObstaclesRow.holds Try.pinned (OpenSpec.ofChange sightObstaclesSpec)

/-- ITS FALSE NEIGHBOUR: 'it returns false'. Refute it at one input. -/
def sightObstaclesWrong : ChangeSpec := { name := "sightObstacles", fn := fun _ => fun
  | [d1, d2, d3, d4, d5] => { results := [.lit (.bool false)], args := [d1, d2, d3, d4, d5] }
  | _ => none }
def SightObstaclesWrongFalsely : Prop := sightObstaclesRow.holds Try.pinned (OpenSpec.ofChange sightObstaclesWrong)

/- THE SECOND FORM. 'bulk': how many values and letters a reading holds, each counted each time it is reached (what is shared counts as often as it is met; a slice's spare places count too). A statement '..UptoSaid' is the law's where the arguments, and the package variables that the reading takes, are together of bulk at most 1048576: NARROWER than '..Said'. Prove '..Said' where nothing that the law and all that it calls make is longer than what came in: it says more and counts as full. Else prove '..UptoSaid'. A law counts once. -/
mutual
def uptoBulk {H : Type} : DataW H → Nat
  | .lit (.string bytes) => bytes.length + 1
  | .lit _ => 1
  | .nil => 1
  | .ptr d => uptoBulk d + 1
  | .slice elems spare => uptoBulkAll elems + uptoBulkAll spare + 1
  | .agg parts => uptoBulkAll parts + 1
  | .iface _ d => uptoBulk d + 1
  | .map entries => uptoBulkEntries entries + 1
  | .held _ => 1
def uptoBulkAll {H : Type} : List (DataW H) → Nat
  | [] => 0
  | d :: r => uptoBulk d + uptoBulkAll r
def uptoBulkEntries {H : Type} : List (Lit × DataW H) → Nat
  | [] => 0
  | x :: r => uptoBulkEntry x + uptoBulkEntries r
def uptoBulkEntry {H : Type} : Lit × DataW H → Nat
  | (.string bytes, d) => bytes.length + uptoBulk d + 1
  | (_, d) => uptoBulk d + 1
 end
def uptoSmall : (H : Type) → List (DataW H) → Bool := fun _ ds => decide (uptoBulkAll ds ≤ 1048576)
def OpenSpec.upto (s : _root_.Go.ChangeSpec) : _root_.Go.OpenSpec := { _root_.Go.OpenSpec.ofChange s with cond := some uptoSmall }

/-- 'foyerlaw09.SightMatchesReference', WHERE WHAT IT READS IS OF BULK AT MOST 1048576: true; the input reads as it did. -/
def sightMatchesReferenceUptoRow : OpenClaim := { program := "ytbphalaajhnnjaa", sum := "c131c5d0de41f177df1497d80aba696de6844ea557d940822ce9dd40b2d30265", func := "foyer/foyerlaw09.SightMatchesReference", spec := "sightMatchesReference", unfollowed := true, recurses := true, apart := false, narrowed := true }
def SightMatchesReferenceUptoSaid : Prop := sightMatchesReferenceUptoRow.holds Try.pinned (OpenSpec.upto sightMatchesReferenceSpec)

/-- 'foyerlaw09.SightSymmetric', WHERE WHAT IT READS IS OF BULK AT MOST 1048576: true; the input reads as it did. -/
def sightSymmetricUptoRow : OpenClaim := { program := "ytbphalaajhnnjaa", sum := "c131c5d0de41f177df1497d80aba696de6844ea557d940822ce9dd40b2d30265", func := "foyer/foyerlaw09.SightSymmetric", spec := "sightSymmetric", unfollowed := true, recurses := true, apart := false, narrowed := true }
def SightSymmetricUptoSaid : Prop := sightSymmetricUptoRow.holds Try.pinned (OpenSpec.upto sightSymmetricSpec)

/-- 'foyerlaw09.SightMoves', WHERE WHAT IT READS IS OF BULK AT MOST 1048576: true; the input reads as it did. -/
def sightMovesUptoRow : OpenClaim := { program := "ytbphalaajhnnjaa", sum := "c131c5d0de41f177df1497d80aba696de6844ea557d940822ce9dd40b2d30265", func := "foyer/foyerlaw09.SightMoves", spec := "sightMoves", unfollowed := true, recurses := true, apart := false, narrowed := true }
def SightMovesUptoSaid : Prop := sightMovesUptoRow.holds Try.pinned (OpenSpec.upto sightMovesSpec)

/-- 'foyerlaw09.SightContains', WHERE WHAT IT READS IS OF BULK AT MOST 1048576: true; the input reads as it did. -/
def sightContainsUptoRow : OpenClaim := { program := "ytbphalaajhnnjaa", sum := "c131c5d0de41f177df1497d80aba696de6844ea557d940822ce9dd40b2d30265", func := "foyer/foyerlaw09.SightContains", spec := "sightContains", unfollowed := true, recurses := true, apart := false, narrowed := true }
def SightContainsUptoSaid : Prop := sightContainsUptoRow.holds Try.pinned (OpenSpec.upto sightContainsSpec)

/-- 'foyerlaw09.SightDivides', WHERE WHAT IT READS IS OF BULK AT MOST 1048576: true; the input reads as it did. -/
def sightDividesUptoRow : OpenClaim := { program := "ytbphalaajhnnjaa", sum := "c131c5d0de41f177df1497d80aba696de6844ea557d940822ce9dd40b2d30265", func := "foyer/foyerlaw09.SightDivides", spec := "sightDivides", unfollowed := true, recurses := true, apart := false, narrowed := true }
def SightDividesUptoSaid : Prop := sightDividesUptoRow.holds Try.pinned (OpenSpec.upto sightDividesSpec)

/-- 'foyerlaw09.SightObstacles', WHERE WHAT IT READS IS OF BULK AT MOST 1048576: true; the input reads as it did. -/
def sightObstaclesUptoRow : OpenClaim := { program := "ytbphalaajhnnjaa", sum := "c131c5d0de41f177df1497d80aba696de6844ea557d940822ce9dd40b2d30265", func := "foyer/foyerlaw09.SightObstacles", spec := "sightObstacles", unfollowed := true, recurses := true, apart := false, narrowed := true }
def SightObstaclesUptoSaid : Prop := sightObstaclesUptoRow.holds Try.pinned (OpenSpec.upto sightObstaclesSpec)

end Rows
end Go.Proofs.Ytbphalaajhnnjaa
