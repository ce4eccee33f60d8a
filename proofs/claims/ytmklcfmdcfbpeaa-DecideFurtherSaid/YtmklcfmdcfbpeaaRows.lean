/-
  No cell of these rows narrows 'for every input' (looked for: loops, veiled, ifaces, maps, wideKeys, modest, calm, conditions, laid).
  DERIVED. THE GIVEN ROWS OF THIS SEAT. 7 by the template 'for every input the law returns true; each argument reads behind the call as it read before'; 0 by the template 'total and deterministic' (their statements: YtmklcfmdcfbpeaaTotals.lean).
  GIVEN WITH THE SEED: the statements are not yours to turn. If you find one false, say at which input.
  Laid BY PROGRAM, IN A SANDBOX (cutbox-rows.mjs): the forced cells as the released guide's own fill.sh prints them over the translation 5028a8134e74389a… (all of the seat's roots in one cut). By AI agents, Wed Nov 11 2026. No macro, syntax, notation, axiom, sorry.
-/
import Derived.Test.YtmklcfmdcfbpeaaChecked
import GoSem.Claim
import GoSem.ClaimJoined
import GoSem.ClaimMapViews
import Derived.JoinedTies
import Derived.KernelRfl
namespace Go.Proofs.Ytmklcfmdcfbpeaa
/- THE CELL 'sum', in the pinned program and in every row, IS THE sha256 OF THE DUMP (.gsa) THAT YtmklcfmdcfbpeaaProg.lean LOADS. Nothing in Lean hashes anything: it is a label: what it is worth is what the hold of that sum in a sandbox is worth. -/
noncomputable def Try.pinned : Pinned := { name := "ytmklcfmdcfbpeaa", sum := "5028a8134e74389aec2bb02e60abdf56cf27be4e01ee05392a5f8bc802bf5f75", checked := Try.checked }
namespace Rows
def none {H : Type} : Left H := { results := [], args := [] }

/-- 'foyerlaw13.DecideMatchesReference': WHATEVER THE INPUT: true; the input reads as it did. -/
def decideMatchesReferenceSpec : ChangeSpec := { name := "decideMatchesReference", fn := fun _ => fun
  | [d1, d2] => { results := [.lit (.bool true)], args := [d1, d2] }
  | _ => none }
def decideMatchesReferenceRow : OpenClaim := { program := "ytmklcfmdcfbpeaa", sum := "5028a8134e74389aec2bb02e60abdf56cf27be4e01ee05392a5f8bc802bf5f75", func := "foyer/foyerlaw13.DecideMatchesReference", spec := "decideMatchesReference", unfollowed := true, recurses := true, apart := false }
def DecideMatchesReferenceSaid : Prop := decideMatchesReferenceRow.holds Try.pinned (OpenSpec.ofChange decideMatchesReferenceSpec)

/-- ITS FALSE NEIGHBOUR: 'it returns false'. Refute it at one input. -/
def decideMatchesReferenceWrong : ChangeSpec := { name := "decideMatchesReference", fn := fun _ => fun
  | [d1, d2] => { results := [.lit (.bool false)], args := [d1, d2] }
  | _ => none }
def DecideMatchesReferenceWrongFalsely : Prop := decideMatchesReferenceRow.holds Try.pinned (OpenSpec.ofChange decideMatchesReferenceWrong)

/-- 'foyerlaw13.DecideKinds': WHATEVER THE INPUT: true; the input reads as it did. -/
def decideKindsSpec : ChangeSpec := { name := "decideKinds", fn := fun _ => fun
  | [d1, d2] => { results := [.lit (.bool true)], args := [d1, d2] }
  | _ => none }
def decideKindsRow : OpenClaim := { program := "ytmklcfmdcfbpeaa", sum := "5028a8134e74389aec2bb02e60abdf56cf27be4e01ee05392a5f8bc802bf5f75", func := "foyer/foyerlaw13.DecideKinds", spec := "decideKinds", unfollowed := true, recurses := true, apart := false }
def DecideKindsSaid : Prop := decideKindsRow.holds Try.pinned (OpenSpec.ofChange decideKindsSpec)

/-- ITS FALSE NEIGHBOUR: 'it returns false'. Refute it at one input. -/
def decideKindsWrong : ChangeSpec := { name := "decideKinds", fn := fun _ => fun
  | [d1, d2] => { results := [.lit (.bool false)], args := [d1, d2] }
  | _ => none }
def DecideKindsWrongFalsely : Prop := decideKindsRow.holds Try.pinned (OpenSpec.ofChange decideKindsWrong)

/-- 'foyerlaw13.DecideZones': WHATEVER THE INPUT: true; the input reads as it did. -/
def decideZonesSpec : ChangeSpec := { name := "decideZones", fn := fun _ => fun
  | [d1, d2] => { results := [.lit (.bool true)], args := [d1, d2] }
  | _ => none }
def decideZonesRow : OpenClaim := { program := "ytmklcfmdcfbpeaa", sum := "5028a8134e74389aec2bb02e60abdf56cf27be4e01ee05392a5f8bc802bf5f75", func := "foyer/foyerlaw13.DecideZones", spec := "decideZones", unfollowed := true, recurses := true, apart := false }
def DecideZonesSaid : Prop := decideZonesRow.holds Try.pinned (OpenSpec.ofChange decideZonesSpec)

/-- ITS FALSE NEIGHBOUR: 'it returns false'. Refute it at one input. -/
def decideZonesWrong : ChangeSpec := { name := "decideZones", fn := fun _ => fun
  | [d1, d2] => { results := [.lit (.bool false)], args := [d1, d2] }
  | _ => none }
def DecideZonesWrongFalsely : Prop := decideZonesRow.holds Try.pinned (OpenSpec.ofChange decideZonesWrong)

/-- 'foyerlaw13.DecideFurther': WHATEVER THE INPUT: true; the input reads as it did. -/
def decideFurtherSpec : ChangeSpec := { name := "decideFurther", fn := fun _ => fun
  | [d1, d2, d3] => { results := [.lit (.bool true)], args := [d1, d2, d3] }
  | _ => none }
def decideFurtherRow : OpenClaim := { program := "ytmklcfmdcfbpeaa", sum := "5028a8134e74389aec2bb02e60abdf56cf27be4e01ee05392a5f8bc802bf5f75", func := "foyer/foyerlaw13.DecideFurther", spec := "decideFurther", unfollowed := true, recurses := true, apart := false }
def DecideFurtherSaid : Prop := decideFurtherRow.holds Try.pinned (OpenSpec.ofChange decideFurtherSpec)

/-- ITS FALSE NEIGHBOUR: 'it returns false'. Refute it at one input. -/
def decideFurtherWrong : ChangeSpec := { name := "decideFurther", fn := fun _ => fun
  | [d1, d2, d3] => { results := [.lit (.bool false)], args := [d1, d2, d3] }
  | _ => none }
def DecideFurtherWrongFalsely : Prop := decideFurtherRow.holds Try.pinned (OpenSpec.ofChange decideFurtherWrong)

/-- 'foyerlaw13.DecideLimits': WHATEVER THE INPUT: true; the input reads as it did. -/
def decideLimitsSpec : ChangeSpec := { name := "decideLimits", fn := fun _ => fun
  | [d1, d2] => { results := [.lit (.bool true)], args := [d1, d2] }
  | _ => none }
def decideLimitsRow : OpenClaim := { program := "ytmklcfmdcfbpeaa", sum := "5028a8134e74389aec2bb02e60abdf56cf27be4e01ee05392a5f8bc802bf5f75", func := "foyer/foyerlaw13.DecideLimits", spec := "decideLimits", unfollowed := true, recurses := true, apart := false }
def DecideLimitsSaid : Prop := decideLimitsRow.holds Try.pinned (OpenSpec.ofChange decideLimitsSpec)

/-- ITS FALSE NEIGHBOUR: 'it returns false'. Refute it at one input. -/
def decideLimitsWrong : ChangeSpec := { name := "decideLimits", fn := fun _ => fun
  | [d1, d2] => { results := [.lit (.bool false)], args := [d1, d2] }
  | _ => none }
def DecideLimitsWrongFalsely : Prop := decideLimitsRow.holds Try.pinned (OpenSpec.ofChange decideLimitsWrong)

/-- 'foyerlaw13.DecideReasons': WHATEVER THE INPUT: true; the input reads as it did. -/
def decideReasonsSpec : ChangeSpec := { name := "decideReasons", fn := fun _ => fun
  | [d1, d2] => { results := [.lit (.bool true)], args := [d1, d2] }
  | _ => none }
def decideReasonsRow : OpenClaim := { program := "ytmklcfmdcfbpeaa", sum := "5028a8134e74389aec2bb02e60abdf56cf27be4e01ee05392a5f8bc802bf5f75", func := "foyer/foyerlaw13.DecideReasons", spec := "decideReasons", unfollowed := true, recurses := true, apart := false }
def DecideReasonsSaid : Prop := decideReasonsRow.holds Try.pinned (OpenSpec.ofChange decideReasonsSpec)

/-- ITS FALSE NEIGHBOUR: 'it returns false'. Refute it at one input. -/
def decideReasonsWrong : ChangeSpec := { name := "decideReasons", fn := fun _ => fun
  | [d1, d2] => { results := [.lit (.bool false)], args := [d1, d2] }
  | _ => none }
def DecideReasonsWrongFalsely : Prop := decideReasonsRow.holds Try.pinned (OpenSpec.ofChange decideReasonsWrong)

/-- 'foyerlaw13.DecideHolding': WHATEVER THE INPUT: true; the input reads as it did. -/
def decideHoldingSpec : ChangeSpec := { name := "decideHolding", fn := fun _ => fun
  | [d1, d2] => { results := [.lit (.bool true)], args := [d1, d2] }
  | _ => none }
def decideHoldingRow : OpenClaim := { program := "ytmklcfmdcfbpeaa", sum := "5028a8134e74389aec2bb02e60abdf56cf27be4e01ee05392a5f8bc802bf5f75", func := "foyer/foyerlaw13.DecideHolding", spec := "decideHolding", unfollowed := true, recurses := true, apart := false }
def DecideHoldingSaid : Prop := decideHoldingRow.holds Try.pinned (OpenSpec.ofChange decideHoldingSpec)

/-- ITS FALSE NEIGHBOUR: 'it returns false'. Refute it at one input. -/
def decideHoldingWrong : ChangeSpec := { name := "decideHolding", fn := fun _ => fun
  | [d1, d2] => { results := [.lit (.bool false)], args := [d1, d2] }
  | _ => none }
def DecideHoldingWrongFalsely : Prop := decideHoldingRow.holds Try.pinned (OpenSpec.ofChange decideHoldingWrong)

/- THE SECOND FORM. 'bulk': how many values and letters a reading holds, each counted each time it is reached (what is shared counts as often as it is met; a slice's spare places count too). A statement '..UptoSaid' is the law's where the arguments, and the package variables that the reading takes, are together of bulk at most 1048576: NARROWER than '..Said'. Prove '..Said' where nothing that the law and all that it calls make is longer than what came in: it says more and counts as full. Else prove '..UptoSaid'. A law counts once. -/
mutual
def uptoBulk {H : Type} : DataW H → Nat
  | .lit (.string bytes) => bytes.length + 1
  | .lit _ => 1
  | .nil => 1
  | .ptr d => uptoBulk d + 1
  | .slice elems spare => uptoBulkAll elems + uptoBulkAll spare + 1
  | .agg parts => uptoBulkAll parts + 1
  | .iface _ d => uptoBulk d + 1
  | .map entries => uptoBulkEntries entries + 1
  | .held _ => 1
def uptoBulkAll {H : Type} : List (DataW H) → Nat
  | [] => 0
  | d :: r => uptoBulk d + uptoBulkAll r
def uptoBulkEntries {H : Type} : List (Lit × DataW H) → Nat
  | [] => 0
  | x :: r => uptoBulkEntry x + uptoBulkEntries r
def uptoBulkEntry {H : Type} : Lit × DataW H → Nat
  | (.string bytes, d) => bytes.length + uptoBulk d + 1
  | (_, d) => uptoBulk d + 1
 end
def uptoSmall : (H : Type) → List (DataW H) → Bool := fun _ ds => decide (uptoBulkAll ds ≤ 1048576)
def OpenSpec.upto (s : _root_.Go.ChangeSpec) : _root_.Go.OpenSpec := { _root_.Go.OpenSpec.ofChange s with cond := some uptoSmall }

/-- 'foyerlaw13.DecideMatchesReference', WHERE WHAT IT READS IS OF BULK AT MOST 1048576: true; the input reads as it did. -/
def decideMatchesReferenceUptoRow : OpenClaim := { program := "ytmklcfmdcfbpeaa", sum := "5028a8134e74389aec2bb02e60abdf56cf27be4e01ee05392a5f8bc802bf5f75", func := "foyer/foyerlaw13.DecideMatchesReference", spec := "decideMatchesReference", unfollowed := true, recurses := true, apart := false, narrowed := true }
def DecideMatchesReferenceUptoSaid : Prop := decideMatchesReferenceUptoRow.holds Try.pinned (OpenSpec.upto decideMatchesReferenceSpec)

/-- 'foyerlaw13.DecideKinds', WHERE WHAT IT READS IS OF BULK AT MOST 1048576: true; the input reads as it did. -/
def decideKindsUptoRow : OpenClaim := { program := "ytmklcfmdcfbpeaa", sum := "5028a8134e74389aec2bb02e60abdf56cf27be4e01ee05392a5f8bc802bf5f75", func := "foyer/foyerlaw13.DecideKinds", spec := "decideKinds", unfollowed := true, recurses := true, apart := false, narrowed := true }
def DecideKindsUptoSaid : Prop := decideKindsUptoRow.holds Try.pinned (OpenSpec.upto decideKindsSpec)

/-- 'foyerlaw13.DecideZones', WHERE WHAT IT READS IS OF BULK AT MOST 1048576: true; the input reads as it did. -/
def decideZonesUptoRow : OpenClaim := { program := "ytmklcfmdcfbpeaa", sum := "5028a8134e74389aec2bb02e60abdf56cf27be4e01ee05392a5f8bc802bf5f75", func := "foyer/foyerlaw13.DecideZones", spec := "decideZones", unfollowed := true, recurses := true, apart := false, narrowed := true }
def DecideZonesUptoSaid : Prop := decideZonesUptoRow.holds Try.pinned (OpenSpec.upto decideZonesSpec)

/-- 'foyerlaw13.DecideFurther', WHERE WHAT IT READS IS OF BULK AT MOST 1048576: true; the input reads as it did. -/
def decideFurtherUptoRow : OpenClaim := { program := "ytmklcfmdcfbpeaa", sum := "5028a8134e74389aec2bb02e60abdf56cf27be4e01ee05392a5f8bc802bf5f75", func := "foyer/foyerlaw13.DecideFurther", spec := "decideFurther", unfollowed := true, recurses := true, apart := false, narrowed := true }
def DecideFurtherUptoSaid : Prop := decideFurtherUptoRow.holds Try.pinned (OpenSpec.upto decideFurtherSpec)

/-- 'foyerlaw13.DecideLimits', WHERE WHAT IT READS IS OF BULK AT MOST 1048576: true; the input reads as it did. -/
def decideLimitsUptoRow : OpenClaim := { program := "ytmklcfmdcfbpeaa", sum := "5028a8134e74389aec2bb02e60abdf56cf27be4e01ee05392a5f8bc802bf5f75", func := "foyer/foyerlaw13.DecideLimits", spec := "decideLimits", unfollowed := true, recurses := true, apart := false, narrowed := true }
def DecideLimitsUptoSaid : Prop := decideLimitsUptoRow.holds Try.pinned (OpenSpec.upto decideLimitsSpec)

/-- 'foyerlaw13.DecideReasons', WHERE WHAT IT READS IS OF BULK AT MOST 1048576: true; the input reads as it did. -/
def decideReasonsUptoRow : OpenClaim := { program := "ytmklcfmdcfbpeaa", sum := "5028a8134e74389aec2bb02e60abdf56cf27be4e01ee05392a5f8bc802bf5f75", func := "foyer/foyerlaw13.DecideReasons", spec := "decideReasons", unfollowed := true, recurses := true, apart := false, narrowed := true }
def DecideReasonsUptoSaid : Prop := decideReasonsUptoRow.holds Try.pinned (OpenSpec.upto decideReasonsSpec)

/-- 'foyerlaw13.DecideHolding', WHERE WHAT IT READS IS OF BULK AT MOST 1048576: true; the input reads as it did. -/
def decideHoldingUptoRow : OpenClaim := { program := "ytmklcfmdcfbpeaa", sum := "5028a8134e74389aec2bb02e60abdf56cf27be4e01ee05392a5f8bc802bf5f75", func := "foyer/foyerlaw13.DecideHolding", spec := "decideHolding", unfollowed := true, recurses := true, apart := false, narrowed := true }
def DecideHoldingUptoSaid : Prop := decideHoldingUptoRow.holds Try.pinned (OpenSpec.upto decideHoldingSpec)

end Rows
end Go.Proofs.Ytmklcfmdcfbpeaa
