/-
  DERIVED. GIVEN WITH THE SEED: THE CARDS: each row of YtojkpoikamcgkaaDoorRows.lean that lists a variable, with what it lists TIED to the program's text (the seventh form; the later family's looks); each row that meets fmt, with fmt's text TOLD by the authors' own Lean function (tested against real Go, not proved from fmt's source: count such statements apart). THE CARD IS WHAT COUNTS. Prove the row's statement (the work); the ties are given (YtojkpoikamcgkaaDoorTie.lean); close each card by the builder's one call (the guide's Derived/Test/ToyasCard.lean, 'card_holds'). Laid BY PROGRAM, IN A SANDBOX (cutbox-door.mjs). By AI agents, Wed Nov 11 2026. No macro, syntax, notation, axiom, sorry.
-/
import Derived.Test.YtojkpoikamcgkaaDoorRows
import GoSem.ClaimSeven
namespace Go.Proofs.YtojkpoikamcgkaaDoor
namespace Rows

/-- THE TIED CARD OF 'foyertop.TopOwner'. -/
def topOwnerCard : Claim7 := { stood := { row := topOwnerRow, standIns := [], harness := (true, "79a8fd2e93e116e24b83fdaa268f08c688c202f21129cfb156985646401255fa"), looks := false }, kinds := [], alts := [], laidByText := true, laidKinds := [.data, .data, .data, .data, .data, .pinned], laidTests := true, laidLooks := .later }
def TopOwnerCardSaid : Prop := Claim7.holds Tryd.pinned (.plain (OpenSpec.ofChange topOwnerSpec)) topOwnerCard

/-- THE SECOND FORM's CARD OF 'foyertop.TopOwner'. -/
def topOwnerUptoCard : Claim7 := { stood := { row := topOwnerUptoRow, standIns := [], harness := (true, "79a8fd2e93e116e24b83fdaa268f08c688c202f21129cfb156985646401255fa"), looks := false }, kinds := [], alts := [], laidByText := true, laidKinds := [.data, .data, .data, .data, .data, .pinned], laidTests := true, laidLooks := .later }
def TopOwnerUptoCardSaid : Prop := Claim7.holds Tryd.pinned (.plain (OpenSpec.upto topOwnerSpec)) topOwnerUptoCard
end Rows
end Go.Proofs.YtojkpoikamcgkaaDoor
