/-
  No cell of these rows narrows 'for every input' (looked for: loops, veiled, ifaces, maps, wideKeys, modest, calm, conditions, laid).
  DERIVED. THE GIVEN ROWS OF THIS SEAT. 6 by the template 'for every input the law returns true; each argument reads behind the call as it read before'; 0 by the template 'total and deterministic' (their statements: YtdacfopdalgkaaaTotals.lean).
  GIVEN WITH THE SEED: the statements are not yours to turn. If you find one false, say at which input.
  Laid BY PROGRAM, IN A SANDBOX (cutbox-rows.mjs): the forced cells as the released guide's own fill.sh prints them over the translation 304f2d90e8b98194… (all of the seat's roots in one cut). By AI agents, Wed Nov 11 2026. No macro, syntax, notation, axiom, sorry.
-/
import Derived.Test.YtdacfopdalgkaaaChecked
import GoSem.Claim
import GoSem.ClaimJoined
import GoSem.ClaimMapViews
import Derived.JoinedTies
import Derived.KernelRfl
namespace Go.Proofs.Ytdacfopdalgkaaa
/- THE CELL 'sum', in the pinned program and in every row, IS THE sha256 OF THE DUMP (.gsa) THAT YtdacfopdalgkaaaProg.lean LOADS. Nothing in Lean hashes anything: it is a label: what it is worth is what the hold of that sum in a sandbox is worth. -/
noncomputable def Try.pinned : Pinned := { name := "ytdacfopdalgkaaa", sum := "304f2d90e8b98194193e7be6a829fe7940fcdbfa8c2aa78ff9c55fe2740b16d9", checked := Try.checked }
namespace Rows
def none {H : Type} : Left H := { results := [], args := [] }

/-- 'foyerlaw17.PriceMatchesReference': WHATEVER THE INPUT: true; the input reads as it did. -/
def priceMatchesReferenceSpec : ChangeSpec := { name := "priceMatchesReference", fn := fun _ => fun
  | [d1, d2, d3, d4] => { results := [.lit (.bool true)], args := [d1, d2, d3, d4] }
  | _ => none }
def priceMatchesReferenceRow : OpenClaim := { program := "ytdacfopdalgkaaa", sum := "304f2d90e8b98194193e7be6a829fe7940fcdbfa8c2aa78ff9c55fe2740b16d9", func := "foyer/foyerlaw17.PriceMatchesReference", spec := "priceMatchesReference", unfollowed := true, recurses := true, apart := false }
def PriceMatchesReferenceSaid : Prop := priceMatchesReferenceRow.holds Try.pinned (OpenSpec.ofChange priceMatchesReferenceSpec)

/-- ITS FALSE NEIGHBOUR: 'it returns false'. Refute it at one input. -/
def priceMatchesReferenceWrong : ChangeSpec := { name := "priceMatchesReference", fn := fun _ => fun
  | [d1, d2, d3, d4] => { results := [.lit (.bool false)], args := [d1, d2, d3, d4] }
  | _ => none }
def PriceMatchesReferenceWrongFalsely : Prop := priceMatchesReferenceRow.holds Try.pinned (OpenSpec.ofChange priceMatchesReferenceWrong)

/-- 'foyerlaw17.PriceSums': WHATEVER THE INPUT: true; the input reads as it did. -/
def priceSumsSpec : ChangeSpec := { name := "priceSums", fn := fun _ => fun
  | [d1, d2] => { results := [.lit (.bool true)], args := [d1, d2] }
  | _ => none }
def priceSumsRow : OpenClaim := { program := "ytdacfopdalgkaaa", sum := "304f2d90e8b98194193e7be6a829fe7940fcdbfa8c2aa78ff9c55fe2740b16d9", func := "foyer/foyerlaw17.PriceSums", spec := "priceSums", unfollowed := true, recurses := true, apart := false }
def PriceSumsSaid : Prop := priceSumsRow.holds Try.pinned (OpenSpec.ofChange priceSumsSpec)

/-- ITS FALSE NEIGHBOUR: 'it returns false'. Refute it at one input. -/
def priceSumsWrong : ChangeSpec := { name := "priceSums", fn := fun _ => fun
  | [d1, d2] => { results := [.lit (.bool false)], args := [d1, d2] }
  | _ => none }
def PriceSumsWrongFalsely : Prop := priceSumsRow.holds Try.pinned (OpenSpec.ofChange priceSumsWrong)

/-- 'foyerlaw17.PriceSeveral': WHATEVER THE INPUT: true; the input reads as it did. -/
def priceSeveralSpec : ChangeSpec := { name := "priceSeveral", fn := fun _ => fun
  | [d1, d2] => { results := [.lit (.bool true)], args := [d1, d2] }
  | _ => none }
def priceSeveralRow : OpenClaim := { program := "ytdacfopdalgkaaa", sum := "304f2d90e8b98194193e7be6a829fe7940fcdbfa8c2aa78ff9c55fe2740b16d9", func := "foyer/foyerlaw17.PriceSeveral", spec := "priceSeveral", unfollowed := true, recurses := true, apart := false }
def PriceSeveralSaid : Prop := priceSeveralRow.holds Try.pinned (OpenSpec.ofChange priceSeveralSpec)

/-- ITS FALSE NEIGHBOUR: 'it returns false'. Refute it at one input. -/
def priceSeveralWrong : ChangeSpec := { name := "priceSeveral", fn := fun _ => fun
  | [d1, d2] => { results := [.lit (.bool false)], args := [d1, d2] }
  | _ => none }
def PriceSeveralWrongFalsely : Prop := priceSeveralRow.holds Try.pinned (OpenSpec.ofChange priceSeveralWrong)

/-- 'foyerlaw17.PriceGrows': WHATEVER THE INPUT: true; the input reads as it did. -/
def priceGrowsSpec : ChangeSpec := { name := "priceGrows", fn := fun _ => fun
  | [d1, d2, d3, d4] => { results := [.lit (.bool true)], args := [d1, d2, d3, d4] }
  | _ => none }
def priceGrowsRow : OpenClaim := { program := "ytdacfopdalgkaaa", sum := "304f2d90e8b98194193e7be6a829fe7940fcdbfa8c2aa78ff9c55fe2740b16d9", func := "foyer/foyerlaw17.PriceGrows", spec := "priceGrows", unfollowed := true, recurses := true, apart := false }
def PriceGrowsSaid : Prop := priceGrowsRow.holds Try.pinned (OpenSpec.ofChange priceGrowsSpec)

/-- ITS FALSE NEIGHBOUR: 'it returns false'. Refute it at one input. -/
def priceGrowsWrong : ChangeSpec := { name := "priceGrows", fn := fun _ => fun
  | [d1, d2, d3, d4] => { results := [.lit (.bool false)], args := [d1, d2, d3, d4] }
  | _ => none }
def PriceGrowsWrongFalsely : Prop := priceGrowsRow.holds Try.pinned (OpenSpec.ofChange priceGrowsWrong)

/-- 'foyerlaw17.PriceBack': WHATEVER THE INPUT: true; the input reads as it did. -/
def priceBackSpec : ChangeSpec := { name := "priceBack", fn := fun _ => fun
  | [d1, d2] => { results := [.lit (.bool true)], args := [d1, d2] }
  | _ => none }
def priceBackRow : OpenClaim := { program := "ytdacfopdalgkaaa", sum := "304f2d90e8b98194193e7be6a829fe7940fcdbfa8c2aa78ff9c55fe2740b16d9", func := "foyer/foyerlaw17.PriceBack", spec := "priceBack", unfollowed := true, recurses := true, apart := false }
def PriceBackSaid : Prop := priceBackRow.holds Try.pinned (OpenSpec.ofChange priceBackSpec)

/-- ITS FALSE NEIGHBOUR: 'it returns false'. Refute it at one input. -/
def priceBackWrong : ChangeSpec := { name := "priceBack", fn := fun _ => fun
  | [d1, d2] => { results := [.lit (.bool false)], args := [d1, d2] }
  | _ => none }
def PriceBackWrongFalsely : Prop := priceBackRow.holds Try.pinned (OpenSpec.ofChange priceBackWrong)

/-- 'foyerlaw17.PriceTop': WHATEVER THE INPUT: true; the input reads as it did. -/
def priceTopSpec : ChangeSpec := { name := "priceTop", fn := fun _ => fun
  | [d1, d2] => { results := [.lit (.bool true)], args := [d1, d2] }
  | _ => none }
def priceTopRow : OpenClaim := { program := "ytdacfopdalgkaaa", sum := "304f2d90e8b98194193e7be6a829fe7940fcdbfa8c2aa78ff9c55fe2740b16d9", func := "foyer/foyerlaw17.PriceTop", spec := "priceTop", unfollowed := true, recurses := true, apart := false }
def PriceTopSaid : Prop := priceTopRow.holds Try.pinned (OpenSpec.ofChange priceTopSpec)

/-- ITS FALSE NEIGHBOUR: 'it returns false'. Refute it at one input. -/
def priceTopWrong : ChangeSpec := { name := "priceTop", fn := fun _ => fun
  | [d1, d2] => { results := [.lit (.bool false)], args := [d1, d2] }
  | _ => none }
def PriceTopWrongFalsely : Prop := priceTopRow.holds Try.pinned (OpenSpec.ofChange priceTopWrong)

/- THE SECOND FORM. 'bulk': how many values and letters a reading holds, each counted each time it is reached (what is shared counts as often as it is met; a slice's spare places count too). A statement '..UptoSaid' is the law's where the arguments, and the package variables that the reading takes, are together of bulk at most 1048576: NARROWER than '..Said'. Prove '..Said' where nothing that the law and all that it calls make is longer than what came in: it says more and counts as full. Else prove '..UptoSaid'. A law counts once. -/
mutual
def uptoBulk {H : Type} : DataW H → Nat
  | .lit (.string bytes) => bytes.length + 1
  | .lit _ => 1
  | .nil => 1
  | .ptr d => uptoBulk d + 1
  | .slice elems spare => uptoBulkAll elems + uptoBulkAll spare + 1
  | .agg parts => uptoBulkAll parts + 1
  | .iface _ d => uptoBulk d + 1
  | .map entries => uptoBulkEntries entries + 1
  | .held _ => 1
def uptoBulkAll {H : Type} : List (DataW H) → Nat
  | [] => 0
  | d :: r => uptoBulk d + uptoBulkAll r
def uptoBulkEntries {H : Type} : List (Lit × DataW H) → Nat
  | [] => 0
  | x :: r => uptoBulkEntry x + uptoBulkEntries r
def uptoBulkEntry {H : Type} : Lit × DataW H → Nat
  | (.string bytes, d) => bytes.length + uptoBulk d + 1
  | (_, d) => uptoBulk d + 1
 end
def uptoSmall : (H : Type) → List (DataW H) → Bool := fun _ ds => decide (uptoBulkAll ds ≤ 1048576)
def OpenSpec.upto (s : _root_.Go.ChangeSpec) : _root_.Go.OpenSpec := { _root_.Go.OpenSpec.ofChange s with cond := some uptoSmall }

/-- 'foyerlaw17.PriceMatchesReference', WHERE WHAT IT READS IS OF BULK AT MOST 1048576: true; the input reads as it did. -/
def priceMatchesReferenceUptoRow : OpenClaim := { program := "ytdacfopdalgkaaa", sum := "304f2d90e8b98194193e7be6a829fe7940fcdbfa8c2aa78ff9c55fe2740b16d9", func := "foyer/foyerlaw17.PriceMatchesReference", spec := "priceMatchesReference", unfollowed := true, recurses := true, apart := false, narrowed := true }
def PriceMatchesReferenceUptoSaid : Prop := priceMatchesReferenceUptoRow.holds Try.pinned (OpenSpec.upto priceMatchesReferenceSpec)

/-- 'foyerlaw17.PriceSums', WHERE WHAT IT READS IS OF BULK AT MOST 1048576: true; the input reads as it did. -/
def priceSumsUptoRow : OpenClaim := { program := "ytdacfopdalgkaaa", sum := "304f2d90e8b98194193e7be6a829fe7940fcdbfa8c2aa78ff9c55fe2740b16d9", func := "foyer/foyerlaw17.PriceSums", spec := "priceSums", unfollowed := true, recurses := true, apart := false, narrowed := true }
def PriceSumsUptoSaid : Prop := priceSumsUptoRow.holds Try.pinned (OpenSpec.upto priceSumsSpec)

/-- 'foyerlaw17.PriceSeveral', WHERE WHAT IT READS IS OF BULK AT MOST 1048576: true; the input reads as it did. -/
def priceSeveralUptoRow : OpenClaim := { program := "ytdacfopdalgkaaa", sum := "304f2d90e8b98194193e7be6a829fe7940fcdbfa8c2aa78ff9c55fe2740b16d9", func := "foyer/foyerlaw17.PriceSeveral", spec := "priceSeveral", unfollowed := true, recurses := true, apart := false, narrowed := true }
def PriceSeveralUptoSaid : Prop := priceSeveralUptoRow.holds Try.pinned (OpenSpec.upto priceSeveralSpec)

/-- 'foyerlaw17.PriceGrows', WHERE WHAT IT READS IS OF BULK AT MOST 1048576: true; the input reads as it did. -/
def priceGrowsUptoRow : OpenClaim := { program := "ytdacfopdalgkaaa", sum := "304f2d90e8b98194193e7be6a829fe7940fcdbfa8c2aa78ff9c55fe2740b16d9", func := "foyer/foyerlaw17.PriceGrows", spec := "priceGrows", unfollowed := true, recurses := true, apart := false, narrowed := true }
def PriceGrowsUptoSaid : Prop := priceGrowsUptoRow.holds Try.pinned (OpenSpec.upto priceGrowsSpec)

/-- 'foyerlaw17.PriceBack', WHERE WHAT IT READS IS OF BULK AT MOST 1048576: true; the input reads as it did. -/
def priceBackUptoRow : OpenClaim := { program := "ytdacfopdalgkaaa", sum := "304f2d90e8b98194193e7be6a829fe7940fcdbfa8c2aa78ff9c55fe2740b16d9", func := "foyer/foyerlaw17.PriceBack", spec := "priceBack", unfollowed := true, recurses := true, apart := false, narrowed := true }
def PriceBackUptoSaid : Prop := priceBackUptoRow.holds Try.pinned (OpenSpec.upto priceBackSpec)

/-- 'foyerlaw17.PriceTop', WHERE WHAT IT READS IS OF BULK AT MOST 1048576: true; the input reads as it did. -/
def priceTopUptoRow : OpenClaim := { program := "ytdacfopdalgkaaa", sum := "304f2d90e8b98194193e7be6a829fe7940fcdbfa8c2aa78ff9c55fe2740b16d9", func := "foyer/foyerlaw17.PriceTop", spec := "priceTop", unfollowed := true, recurses := true, apart := false, narrowed := true }
def PriceTopUptoSaid : Prop := priceTopUptoRow.holds Try.pinned (OpenSpec.upto priceTopSpec)

end Rows
end Go.Proofs.Ytdacfopdalgkaaa
