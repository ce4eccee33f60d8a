/-
  No cell of these rows narrows 'for every input' (looked for: loops, veiled, ifaces, maps, wideKeys, modest, calm, conditions, laid).
  DERIVED. THE GIVEN ROWS OF THIS SEAT. 6 by the template 'for every input the law returns true; each argument reads behind the call as it read before'; 0 by the template 'total and deterministic' (their statements: YtecjhniomjmocaaTotals.lean).
  GIVEN WITH THE SEED: the statements are not yours to turn. If you find one false, say at which input.
  Laid BY PROGRAM, IN A SANDBOX (cutbox-rows.mjs): the forced cells as the released guide's own fill.sh prints them over the translation 5c85ec0f29d351c1… (all of the seat's roots in one cut). By AI agents, Wed Nov 11 2026. No macro, syntax, notation, axiom, sorry.
-/
import Derived.Test.YtecjhniomjmocaaChecked
import GoSem.Claim
import GoSem.ClaimJoined
import GoSem.ClaimMapViews
import Derived.JoinedTies
import Derived.KernelRfl
namespace Go.Proofs.Ytecjhniomjmocaa
/- THE CELL 'sum', in the pinned program and in every row, IS THE sha256 OF THE DUMP (.gsa) THAT YtecjhniomjmocaaProg.lean LOADS. Nothing in Lean hashes anything: it is a label: what it is worth is what the hold of that sum in a sandbox is worth. -/
noncomputable def Try.pinned : Pinned := { name := "ytecjhniomjmocaa", sum := "5c85ec0f29d351c18c5c3db8e7ed8dfdcb0c74d9763e7cc2f924737eaaeaf8d0", checked := Try.checked }
namespace Rows
def none {H : Type} : Left H := { results := [], args := [] }

/-- 'foyerlaw12.ResolveMatchesReference': WHATEVER THE INPUT: true; the input reads as it did. -/
def resolveMatchesReferenceSpec : ChangeSpec := { name := "resolveMatchesReference", fn := fun _ => fun
  | [d1, d2] => { results := [.lit (.bool true)], args := [d1, d2] }
  | _ => none }
def resolveMatchesReferenceRow : OpenClaim := { program := "ytecjhniomjmocaa", sum := "5c85ec0f29d351c18c5c3db8e7ed8dfdcb0c74d9763e7cc2f924737eaaeaf8d0", func := "foyer/foyerlaw12.ResolveMatchesReference", spec := "resolveMatchesReference", unfollowed := true, recurses := true, apart := false }
def ResolveMatchesReferenceSaid : Prop := resolveMatchesReferenceRow.holds Try.pinned (OpenSpec.ofChange resolveMatchesReferenceSpec)

/-- ITS FALSE NEIGHBOUR: 'it returns false'. Refute it at one input. -/
def resolveMatchesReferenceWrong : ChangeSpec := { name := "resolveMatchesReference", fn := fun _ => fun
  | [d1, d2] => { results := [.lit (.bool false)], args := [d1, d2] }
  | _ => none }
def ResolveMatchesReferenceWrongFalsely : Prop := resolveMatchesReferenceRow.holds Try.pinned (OpenSpec.ofChange resolveMatchesReferenceWrong)

/-- 'foyerlaw12.ResolveMeans': WHATEVER THE INPUT: true; the input reads as it did. -/
def resolveMeansSpec : ChangeSpec := { name := "resolveMeans", fn := fun _ => fun
  | [d1, d2, d3] => { results := [.lit (.bool true)], args := [d1, d2, d3] }
  | _ => none }
def resolveMeansRow : OpenClaim := { program := "ytecjhniomjmocaa", sum := "5c85ec0f29d351c18c5c3db8e7ed8dfdcb0c74d9763e7cc2f924737eaaeaf8d0", func := "foyer/foyerlaw12.ResolveMeans", spec := "resolveMeans", unfollowed := true, recurses := true, apart := false }
def ResolveMeansSaid : Prop := resolveMeansRow.holds Try.pinned (OpenSpec.ofChange resolveMeansSpec)

/-- ITS FALSE NEIGHBOUR: 'it returns false'. Refute it at one input. -/
def resolveMeansWrong : ChangeSpec := { name := "resolveMeans", fn := fun _ => fun
  | [d1, d2, d3] => { results := [.lit (.bool false)], args := [d1, d2, d3] }
  | _ => none }
def ResolveMeansWrongFalsely : Prop := resolveMeansRow.holds Try.pinned (OpenSpec.ofChange resolveMeansWrong)

/-- 'foyerlaw12.ResolveZones': WHATEVER THE INPUT: true; the input reads as it did. -/
def resolveZonesSpec : ChangeSpec := { name := "resolveZones", fn := fun _ => fun
  | [d1, d2] => { results := [.lit (.bool true)], args := [d1, d2] }
  | _ => none }
def resolveZonesRow : OpenClaim := { program := "ytecjhniomjmocaa", sum := "5c85ec0f29d351c18c5c3db8e7ed8dfdcb0c74d9763e7cc2f924737eaaeaf8d0", func := "foyer/foyerlaw12.ResolveZones", spec := "resolveZones", unfollowed := true, recurses := true, apart := false }
def ResolveZonesSaid : Prop := resolveZonesRow.holds Try.pinned (OpenSpec.ofChange resolveZonesSpec)

/-- ITS FALSE NEIGHBOUR: 'it returns false'. Refute it at one input. -/
def resolveZonesWrong : ChangeSpec := { name := "resolveZones", fn := fun _ => fun
  | [d1, d2] => { results := [.lit (.bool false)], args := [d1, d2] }
  | _ => none }
def ResolveZonesWrongFalsely : Prop := resolveZonesRow.holds Try.pinned (OpenSpec.ofChange resolveZonesWrong)

/-- 'foyerlaw12.ResolveOrder': WHATEVER THE INPUT: true; the input reads as it did. -/
def resolveOrderSpec : ChangeSpec := { name := "resolveOrder", fn := fun _ => fun
  | [d1, d2, d3] => { results := [.lit (.bool true)], args := [d1, d2, d3] }
  | _ => none }
def resolveOrderRow : OpenClaim := { program := "ytecjhniomjmocaa", sum := "5c85ec0f29d351c18c5c3db8e7ed8dfdcb0c74d9763e7cc2f924737eaaeaf8d0", func := "foyer/foyerlaw12.ResolveOrder", spec := "resolveOrder", unfollowed := true, recurses := true, apart := false }
def ResolveOrderSaid : Prop := resolveOrderRow.holds Try.pinned (OpenSpec.ofChange resolveOrderSpec)

/-- ITS FALSE NEIGHBOUR: 'it returns false'. Refute it at one input. -/
def resolveOrderWrong : ChangeSpec := { name := "resolveOrder", fn := fun _ => fun
  | [d1, d2, d3] => { results := [.lit (.bool false)], args := [d1, d2, d3] }
  | _ => none }
def ResolveOrderWrongFalsely : Prop := resolveOrderRow.holds Try.pinned (OpenSpec.ofChange resolveOrderWrong)

/-- 'foyerlaw12.ResolveNames': WHATEVER THE INPUT: true; the input reads as it did. -/
def resolveNamesSpec : ChangeSpec := { name := "resolveNames", fn := fun _ => fun
  | [d1, d2] => { results := [.lit (.bool true)], args := [d1, d2] }
  | _ => none }
def resolveNamesRow : OpenClaim := { program := "ytecjhniomjmocaa", sum := "5c85ec0f29d351c18c5c3db8e7ed8dfdcb0c74d9763e7cc2f924737eaaeaf8d0", func := "foyer/foyerlaw12.ResolveNames", spec := "resolveNames", unfollowed := true, recurses := true, apart := false }
def ResolveNamesSaid : Prop := resolveNamesRow.holds Try.pinned (OpenSpec.ofChange resolveNamesSpec)

/-- ITS FALSE NEIGHBOUR: 'it returns false'. Refute it at one input. -/
def resolveNamesWrong : ChangeSpec := { name := "resolveNames", fn := fun _ => fun
  | [d1, d2] => { results := [.lit (.bool false)], args := [d1, d2] }
  | _ => none }
def ResolveNamesWrongFalsely : Prop := resolveNamesRow.holds Try.pinned (OpenSpec.ofChange resolveNamesWrong)

/-- 'foyerlaw12.ResolveFaults': WHATEVER THE INPUT: true; the input reads as it did. -/
def resolveFaultsSpec : ChangeSpec := { name := "resolveFaults", fn := fun _ => fun
  | [d1, d2] => { results := [.lit (.bool true)], args := [d1, d2] }
  | _ => none }
def resolveFaultsRow : OpenClaim := { program := "ytecjhniomjmocaa", sum := "5c85ec0f29d351c18c5c3db8e7ed8dfdcb0c74d9763e7cc2f924737eaaeaf8d0", func := "foyer/foyerlaw12.ResolveFaults", spec := "resolveFaults", unfollowed := true, recurses := true, apart := false }
def ResolveFaultsSaid : Prop := resolveFaultsRow.holds Try.pinned (OpenSpec.ofChange resolveFaultsSpec)

/-- ITS FALSE NEIGHBOUR: 'it returns false'. Refute it at one input. -/
def resolveFaultsWrong : ChangeSpec := { name := "resolveFaults", fn := fun _ => fun
  | [d1, d2] => { results := [.lit (.bool false)], args := [d1, d2] }
  | _ => none }
def ResolveFaultsWrongFalsely : Prop := resolveFaultsRow.holds Try.pinned (OpenSpec.ofChange resolveFaultsWrong)

/- THE SECOND FORM. 'bulk': how many values and letters a reading holds, each counted each time it is reached (what is shared counts as often as it is met; a slice's spare places count too). A statement '..UptoSaid' is the law's where the arguments, and the package variables that the reading takes, are together of bulk at most 1048576: NARROWER than '..Said'. Prove '..Said' where nothing that the law and all that it calls make is longer than what came in: it says more and counts as full. Else prove '..UptoSaid'. A law counts once. -/
mutual
def uptoBulk {H : Type} : DataW H → Nat
  | .lit (.string bytes) => bytes.length + 1
  | .lit _ => 1
  | .nil => 1
  | .ptr d => uptoBulk d + 1
  | .slice elems spare => uptoBulkAll elems + uptoBulkAll spare + 1
  | .agg parts => uptoBulkAll parts + 1
  | .iface _ d => uptoBulk d + 1
  | .map entries => uptoBulkEntries entries + 1
  | .held _ => 1
def uptoBulkAll {H : Type} : List (DataW H) → Nat
  | [] => 0
  | d :: r => uptoBulk d + uptoBulkAll r
def uptoBulkEntries {H : Type} : List (Lit × DataW H) → Nat
  | [] => 0
  | x :: r => uptoBulkEntry x + uptoBulkEntries r
def uptoBulkEntry {H : Type} : Lit × DataW H → Nat
  | (.string bytes, d) => bytes.length + uptoBulk d + 1
  | (_, d) => uptoBulk d + 1
 end
def uptoSmall : (H : Type) → List (DataW H) → Bool := fun _ ds => decide (uptoBulkAll ds ≤ 1048576)
def OpenSpec.upto (s : _root_.Go.ChangeSpec) : _root_.Go.OpenSpec := { _root_.Go.OpenSpec.ofChange s with cond := some uptoSmall }

/-- 'foyerlaw12.ResolveMatchesReference', WHERE WHAT IT READS IS OF BULK AT MOST 1048576: true; the input reads as it did. -/
def resolveMatchesReferenceUptoRow : OpenClaim := { program := "ytecjhniomjmocaa", sum := "5c85ec0f29d351c18c5c3db8e7ed8dfdcb0c74d9763e7cc2f924737eaaeaf8d0", func := "foyer/foyerlaw12.ResolveMatchesReference", spec := "resolveMatchesReference", unfollowed := true, recurses := true, apart := false, narrowed := true }
def ResolveMatchesReferenceUptoSaid : Prop := resolveMatchesReferenceUptoRow.holds Try.pinned (OpenSpec.upto resolveMatchesReferenceSpec)

/-- 'foyerlaw12.ResolveMeans', WHERE WHAT IT READS IS OF BULK AT MOST 1048576: true; the input reads as it did. -/
def resolveMeansUptoRow : OpenClaim := { program := "ytecjhniomjmocaa", sum := "5c85ec0f29d351c18c5c3db8e7ed8dfdcb0c74d9763e7cc2f924737eaaeaf8d0", func := "foyer/foyerlaw12.ResolveMeans", spec := "resolveMeans", unfollowed := true, recurses := true, apart := false, narrowed := true }
def ResolveMeansUptoSaid : Prop := resolveMeansUptoRow.holds Try.pinned (OpenSpec.upto resolveMeansSpec)

/-- 'foyerlaw12.ResolveZones', WHERE WHAT IT READS IS OF BULK AT MOST 1048576: true; the input reads as it did. -/
def resolveZonesUptoRow : OpenClaim := { program := "ytecjhniomjmocaa", sum := "5c85ec0f29d351c18c5c3db8e7ed8dfdcb0c74d9763e7cc2f924737eaaeaf8d0", func := "foyer/foyerlaw12.ResolveZones", spec := "resolveZones", unfollowed := true, recurses := true, apart := false, narrowed := true }
def ResolveZonesUptoSaid : Prop := resolveZonesUptoRow.holds Try.pinned (OpenSpec.upto resolveZonesSpec)

/-- 'foyerlaw12.ResolveOrder', WHERE WHAT IT READS IS OF BULK AT MOST 1048576: true; the input reads as it did. -/
def resolveOrderUptoRow : OpenClaim := { program := "ytecjhniomjmocaa", sum := "5c85ec0f29d351c18c5c3db8e7ed8dfdcb0c74d9763e7cc2f924737eaaeaf8d0", func := "foyer/foyerlaw12.ResolveOrder", spec := "resolveOrder", unfollowed := true, recurses := true, apart := false, narrowed := true }
def ResolveOrderUptoSaid : Prop := resolveOrderUptoRow.holds Try.pinned (OpenSpec.upto resolveOrderSpec)

/-- 'foyerlaw12.ResolveNames', WHERE WHAT IT READS IS OF BULK AT MOST 1048576: true; the input reads as it did. -/
def resolveNamesUptoRow : OpenClaim := { program := "ytecjhniomjmocaa", sum := "5c85ec0f29d351c18c5c3db8e7ed8dfdcb0c74d9763e7cc2f924737eaaeaf8d0", func := "foyer/foyerlaw12.ResolveNames", spec := "resolveNames", unfollowed := true, recurses := true, apart := false, narrowed := true }
def ResolveNamesUptoSaid : Prop := resolveNamesUptoRow.holds Try.pinned (OpenSpec.upto resolveNamesSpec)

/-- 'foyerlaw12.ResolveFaults', WHERE WHAT IT READS IS OF BULK AT MOST 1048576: true; the input reads as it did. -/
def resolveFaultsUptoRow : OpenClaim := { program := "ytecjhniomjmocaa", sum := "5c85ec0f29d351c18c5c3db8e7ed8dfdcb0c74d9763e7cc2f924737eaaeaf8d0", func := "foyer/foyerlaw12.ResolveFaults", spec := "resolveFaults", unfollowed := true, recurses := true, apart := false, narrowed := true }
def ResolveFaultsUptoSaid : Prop := resolveFaultsUptoRow.holds Try.pinned (OpenSpec.upto resolveFaultsSpec)

end Rows
end Go.Proofs.Ytecjhniomjmocaa
