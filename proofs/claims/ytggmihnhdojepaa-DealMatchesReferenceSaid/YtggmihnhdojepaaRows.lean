/-
  No cell of these rows narrows 'for every input' (looked for: loops, veiled, ifaces, maps, wideKeys, modest, calm, conditions, laid).
  DERIVED. THE GIVEN ROWS OF THIS SEAT. 7 by the template 'for every input the law returns true; each argument reads behind the call as it read before'; 0 by the template 'total and deterministic' (their statements: YtggmihnhdojepaaTotals.lean).
  GIVEN WITH THE SEED: the statements are not yours to turn. If you find one false, say at which input.
  Laid BY PROGRAM, IN A SANDBOX (cutbox-rows.mjs): the forced cells as the released guide's own fill.sh prints them over the translation e3cf80b1ec893ff6… (all of the seat's roots in one cut). By AI agents, Wed Nov 11 2026. No macro, syntax, notation, axiom, sorry.
-/
import Derived.Test.YtggmihnhdojepaaChecked
import GoSem.Claim
import GoSem.ClaimJoined
import GoSem.ClaimMapViews
import Derived.JoinedTies
import Derived.KernelRfl
namespace Go.Proofs.Ytggmihnhdojepaa
/- THE CELL 'sum', in the pinned program and in every row, IS THE sha256 OF THE DUMP (.gsa) THAT YtggmihnhdojepaaProg.lean LOADS. Nothing in Lean hashes anything: it is a label: what it is worth is what the hold of that sum in a sandbox is worth. -/
noncomputable def Try.pinned : Pinned := { name := "ytggmihnhdojepaa", sum := "e3cf80b1ec893ff62405b28c5c5feed38b08f0f20c61f1d6800da9fc2931488f", checked := Try.checked }
namespace Rows
def none {H : Type} : Left H := { results := [], args := [] }

/-- 'foyerlaw34.DealMatchesReference': WHATEVER THE INPUT: true; the input reads as it did. -/
def dealMatchesReferenceSpec : ChangeSpec := { name := "dealMatchesReference", fn := fun _ => fun
  | [d1, d2, d3, d4, d5] => { results := [.lit (.bool true)], args := [d1, d2, d3, d4, d5] }
  | _ => none }
def dealMatchesReferenceRow : OpenClaim := { program := "ytggmihnhdojepaa", sum := "e3cf80b1ec893ff62405b28c5c5feed38b08f0f20c61f1d6800da9fc2931488f", func := "foyer/foyerlaw34.DealMatchesReference", spec := "dealMatchesReference", unfollowed := true, recurses := true, plainKeys := false, apart := false }
def DealMatchesReferenceSaid : Prop := dealMatchesReferenceRow.holds Try.pinned (OpenSpec.ofChange dealMatchesReferenceSpec)

/-- ITS FALSE NEIGHBOUR: 'it returns false'. Refute it at one input. -/
def dealMatchesReferenceWrong : ChangeSpec := { name := "dealMatchesReference", fn := fun _ => fun
  | [d1, d2, d3, d4, d5] => { results := [.lit (.bool false)], args := [d1, d2, d3, d4, d5] }
  | _ => none }
def DealMatchesReferenceWrongFalsely : Prop := dealMatchesReferenceRow.holds Try.pinned (OpenSpec.ofChange dealMatchesReferenceWrong)

/-- 'foyerlaw34.DealBalances': WHATEVER THE INPUT: true; the input reads as it did. -/
def dealBalancesSpec : ChangeSpec := { name := "dealBalances", fn := fun _ => fun
  | [d1, d2, d3, d4, d5] => { results := [.lit (.bool true)], args := [d1, d2, d3, d4, d5] }
  | _ => none }
def dealBalancesRow : OpenClaim := { program := "ytggmihnhdojepaa", sum := "e3cf80b1ec893ff62405b28c5c5feed38b08f0f20c61f1d6800da9fc2931488f", func := "foyer/foyerlaw34.DealBalances", spec := "dealBalances", unfollowed := true, recurses := true, plainKeys := false, apart := false }
def DealBalancesSaid : Prop := dealBalancesRow.holds Try.pinned (OpenSpec.ofChange dealBalancesSpec)

/-- ITS FALSE NEIGHBOUR: 'it returns false'. Refute it at one input. -/
def dealBalancesWrong : ChangeSpec := { name := "dealBalances", fn := fun _ => fun
  | [d1, d2, d3, d4, d5] => { results := [.lit (.bool false)], args := [d1, d2, d3, d4, d5] }
  | _ => none }
def DealBalancesWrongFalsely : Prop := dealBalancesRow.holds Try.pinned (OpenSpec.ofChange dealBalancesWrong)

/-- 'foyerlaw34.DealSales': WHATEVER THE INPUT: true; the input reads as it did. -/
def dealSalesSpec : ChangeSpec := { name := "dealSales", fn := fun _ => fun
  | [d1, d2, d3] => { results := [.lit (.bool true)], args := [d1, d2, d3] }
  | _ => none }
def dealSalesRow : OpenClaim := { program := "ytggmihnhdojepaa", sum := "e3cf80b1ec893ff62405b28c5c5feed38b08f0f20c61f1d6800da9fc2931488f", func := "foyer/foyerlaw34.DealSales", spec := "dealSales", unfollowed := true, recurses := true, plainKeys := false, apart := false }
def DealSalesSaid : Prop := dealSalesRow.holds Try.pinned (OpenSpec.ofChange dealSalesSpec)

/-- ITS FALSE NEIGHBOUR: 'it returns false'. Refute it at one input. -/
def dealSalesWrong : ChangeSpec := { name := "dealSales", fn := fun _ => fun
  | [d1, d2, d3] => { results := [.lit (.bool false)], args := [d1, d2, d3] }
  | _ => none }
def DealSalesWrongFalsely : Prop := dealSalesRow.holds Try.pinned (OpenSpec.ofChange dealSalesWrong)

/-- 'foyerlaw34.DealResales': WHATEVER THE INPUT: true; the input reads as it did. -/
def dealResalesSpec : ChangeSpec := { name := "dealResales", fn := fun _ => fun
  | [d1, d2, d3, d4, d5] => { results := [.lit (.bool true)], args := [d1, d2, d3, d4, d5] }
  | _ => none }
def dealResalesRow : OpenClaim := { program := "ytggmihnhdojepaa", sum := "e3cf80b1ec893ff62405b28c5c5feed38b08f0f20c61f1d6800da9fc2931488f", func := "foyer/foyerlaw34.DealResales", spec := "dealResales", unfollowed := true, recurses := true, plainKeys := false, apart := false }
def DealResalesSaid : Prop := dealResalesRow.holds Try.pinned (OpenSpec.ofChange dealResalesSpec)

/-- ITS FALSE NEIGHBOUR: 'it returns false'. Refute it at one input. -/
def dealResalesWrong : ChangeSpec := { name := "dealResales", fn := fun _ => fun
  | [d1, d2, d3, d4, d5] => { results := [.lit (.bool false)], args := [d1, d2, d3, d4, d5] }
  | _ => none }
def DealResalesWrongFalsely : Prop := dealResalesRow.holds Try.pinned (OpenSpec.ofChange dealResalesWrong)

/-- 'foyerlaw34.DealRefunds': WHATEVER THE INPUT: true; the input reads as it did. -/
def dealRefundsSpec : ChangeSpec := { name := "dealRefunds", fn := fun _ => fun
  | [d1, d2, d3] => { results := [.lit (.bool true)], args := [d1, d2, d3] }
  | _ => none }
def dealRefundsRow : OpenClaim := { program := "ytggmihnhdojepaa", sum := "e3cf80b1ec893ff62405b28c5c5feed38b08f0f20c61f1d6800da9fc2931488f", func := "foyer/foyerlaw34.DealRefunds", spec := "dealRefunds", unfollowed := true, recurses := true, plainKeys := false, apart := false }
def DealRefundsSaid : Prop := dealRefundsRow.holds Try.pinned (OpenSpec.ofChange dealRefundsSpec)

/-- ITS FALSE NEIGHBOUR: 'it returns false'. Refute it at one input. -/
def dealRefundsWrong : ChangeSpec := { name := "dealRefunds", fn := fun _ => fun
  | [d1, d2, d3] => { results := [.lit (.bool false)], args := [d1, d2, d3] }
  | _ => none }
def DealRefundsWrongFalsely : Prop := dealRefundsRow.holds Try.pinned (OpenSpec.ofChange dealRefundsWrong)

/-- 'foyerlaw34.DealParts': WHATEVER THE INPUT: true; the input reads as it did. -/
def dealPartsSpec : ChangeSpec := { name := "dealParts", fn := fun _ => fun
  | [d1, d2, d3] => { results := [.lit (.bool true)], args := [d1, d2, d3] }
  | _ => none }
def dealPartsRow : OpenClaim := { program := "ytggmihnhdojepaa", sum := "e3cf80b1ec893ff62405b28c5c5feed38b08f0f20c61f1d6800da9fc2931488f", func := "foyer/foyerlaw34.DealParts", spec := "dealParts", unfollowed := true, recurses := true, plainKeys := false, apart := false }
def DealPartsSaid : Prop := dealPartsRow.holds Try.pinned (OpenSpec.ofChange dealPartsSpec)

/-- ITS FALSE NEIGHBOUR: 'it returns false'. Refute it at one input. -/
def dealPartsWrong : ChangeSpec := { name := "dealParts", fn := fun _ => fun
  | [d1, d2, d3] => { results := [.lit (.bool false)], args := [d1, d2, d3] }
  | _ => none }
def DealPartsWrongFalsely : Prop := dealPartsRow.holds Try.pinned (OpenSpec.ofChange dealPartsWrong)

/-- 'foyerlaw34.DealLines': WHATEVER THE INPUT: true; the input reads as it did. -/
def dealLinesSpec : ChangeSpec := { name := "dealLines", fn := fun _ => fun
  | [d1, d2, d3, d4, d5, d6] => { results := [.lit (.bool true)], args := [d1, d2, d3, d4, d5, d6] }
  | _ => none }
def dealLinesRow : OpenClaim := { program := "ytggmihnhdojepaa", sum := "e3cf80b1ec893ff62405b28c5c5feed38b08f0f20c61f1d6800da9fc2931488f", func := "foyer/foyerlaw34.DealLines", spec := "dealLines", unfollowed := true, recurses := true, plainKeys := false, apart := false }
def DealLinesSaid : Prop := dealLinesRow.holds Try.pinned (OpenSpec.ofChange dealLinesSpec)

/-- ITS FALSE NEIGHBOUR: 'it returns false'. Refute it at one input. -/
def dealLinesWrong : ChangeSpec := { name := "dealLines", fn := fun _ => fun
  | [d1, d2, d3, d4, d5, d6] => { results := [.lit (.bool false)], args := [d1, d2, d3, d4, d5, d6] }
  | _ => none }
def DealLinesWrongFalsely : Prop := dealLinesRow.holds Try.pinned (OpenSpec.ofChange dealLinesWrong)

/- THE SECOND FORM. 'bulk': how many values and letters a reading holds, each counted each time it is reached (what is shared counts as often as it is met; a slice's spare places count too). A statement '..UptoSaid' is the law's where the arguments, and the package variables that the reading takes, are together of bulk at most 1048576: NARROWER than '..Said'. Prove '..Said' where nothing that the law and all that it calls make is longer than what came in: it says more and counts as full. Else prove '..UptoSaid'. A law counts once. -/
mutual
def uptoBulk {H : Type} : DataW H → Nat
  | .lit (.string bytes) => bytes.length + 1
  | .lit _ => 1
  | .nil => 1
  | .ptr d => uptoBulk d + 1
  | .slice elems spare => uptoBulkAll elems + uptoBulkAll spare + 1
  | .agg parts => uptoBulkAll parts + 1
  | .iface _ d => uptoBulk d + 1
  | .map entries => uptoBulkEntries entries + 1
  | .held _ => 1
def uptoBulkAll {H : Type} : List (DataW H) → Nat
  | [] => 0
  | d :: r => uptoBulk d + uptoBulkAll r
def uptoBulkEntries {H : Type} : List (Lit × DataW H) → Nat
  | [] => 0
  | x :: r => uptoBulkEntry x + uptoBulkEntries r
def uptoBulkEntry {H : Type} : Lit × DataW H → Nat
  | (.string bytes, d) => bytes.length + uptoBulk d + 1
  | (_, d) => uptoBulk d + 1
 end
def uptoSmall : (H : Type) → List (DataW H) → Bool := fun _ ds => decide (uptoBulkAll ds ≤ 1048576)
def OpenSpec.upto (s : _root_.Go.ChangeSpec) : _root_.Go.OpenSpec := { _root_.Go.OpenSpec.ofChange s with cond := some uptoSmall }

/-- 'foyerlaw34.DealMatchesReference', WHERE WHAT IT READS IS OF BULK AT MOST 1048576: true; the input reads as it did. -/
def dealMatchesReferenceUptoRow : OpenClaim := { program := "ytggmihnhdojepaa", sum := "e3cf80b1ec893ff62405b28c5c5feed38b08f0f20c61f1d6800da9fc2931488f", func := "foyer/foyerlaw34.DealMatchesReference", spec := "dealMatchesReference", unfollowed := true, recurses := true, plainKeys := false, apart := false, narrowed := true }
def DealMatchesReferenceUptoSaid : Prop := dealMatchesReferenceUptoRow.holds Try.pinned (OpenSpec.upto dealMatchesReferenceSpec)

/-- 'foyerlaw34.DealBalances', WHERE WHAT IT READS IS OF BULK AT MOST 1048576: true; the input reads as it did. -/
def dealBalancesUptoRow : OpenClaim := { program := "ytggmihnhdojepaa", sum := "e3cf80b1ec893ff62405b28c5c5feed38b08f0f20c61f1d6800da9fc2931488f", func := "foyer/foyerlaw34.DealBalances", spec := "dealBalances", unfollowed := true, recurses := true, plainKeys := false, apart := false, narrowed := true }
def DealBalancesUptoSaid : Prop := dealBalancesUptoRow.holds Try.pinned (OpenSpec.upto dealBalancesSpec)

/-- 'foyerlaw34.DealSales', WHERE WHAT IT READS IS OF BULK AT MOST 1048576: true; the input reads as it did. -/
def dealSalesUptoRow : OpenClaim := { program := "ytggmihnhdojepaa", sum := "e3cf80b1ec893ff62405b28c5c5feed38b08f0f20c61f1d6800da9fc2931488f", func := "foyer/foyerlaw34.DealSales", spec := "dealSales", unfollowed := true, recurses := true, plainKeys := false, apart := false, narrowed := true }
def DealSalesUptoSaid : Prop := dealSalesUptoRow.holds Try.pinned (OpenSpec.upto dealSalesSpec)

/-- 'foyerlaw34.DealResales', WHERE WHAT IT READS IS OF BULK AT MOST 1048576: true; the input reads as it did. -/
def dealResalesUptoRow : OpenClaim := { program := "ytggmihnhdojepaa", sum := "e3cf80b1ec893ff62405b28c5c5feed38b08f0f20c61f1d6800da9fc2931488f", func := "foyer/foyerlaw34.DealResales", spec := "dealResales", unfollowed := true, recurses := true, plainKeys := false, apart := false, narrowed := true }
def DealResalesUptoSaid : Prop := dealResalesUptoRow.holds Try.pinned (OpenSpec.upto dealResalesSpec)

/-- 'foyerlaw34.DealRefunds', WHERE WHAT IT READS IS OF BULK AT MOST 1048576: true; the input reads as it did. -/
def dealRefundsUptoRow : OpenClaim := { program := "ytggmihnhdojepaa", sum := "e3cf80b1ec893ff62405b28c5c5feed38b08f0f20c61f1d6800da9fc2931488f", func := "foyer/foyerlaw34.DealRefunds", spec := "dealRefunds", unfollowed := true, recurses := true, plainKeys := false, apart := false, narrowed := true }
def DealRefundsUptoSaid : Prop := dealRefundsUptoRow.holds Try.pinned (OpenSpec.upto dealRefundsSpec)

/-- 'foyerlaw34.DealParts', WHERE WHAT IT READS IS OF BULK AT MOST 1048576: true; the input reads as it did. -/
def dealPartsUptoRow : OpenClaim := { program := "ytggmihnhdojepaa", sum := "e3cf80b1ec893ff62405b28c5c5feed38b08f0f20c61f1d6800da9fc2931488f", func := "foyer/foyerlaw34.DealParts", spec := "dealParts", unfollowed := true, recurses := true, plainKeys := false, apart := false, narrowed := true }
def DealPartsUptoSaid : Prop := dealPartsUptoRow.holds Try.pinned (OpenSpec.upto dealPartsSpec)

/-- 'foyerlaw34.DealLines', WHERE WHAT IT READS IS OF BULK AT MOST 1048576: true; the input reads as it did. -/
def dealLinesUptoRow : OpenClaim := { program := "ytggmihnhdojepaa", sum := "e3cf80b1ec893ff62405b28c5c5feed38b08f0f20c61f1d6800da9fc2931488f", func := "foyer/foyerlaw34.DealLines", spec := "dealLines", unfollowed := true, recurses := true, plainKeys := false, apart := false, narrowed := true }
def DealLinesUptoSaid : Prop := dealLinesUptoRow.holds Try.pinned (OpenSpec.upto dealLinesSpec)

end Rows
end Go.Proofs.Ytggmihnhdojepaa
