/-
  DERIVED. GIVEN WITH THE SEED: THE CARDS: each row of YtbcpcneadjcmlaaGreatDoorRows.lean that lists a variable, with what it lists TIED to the program's text (the seventh form; the later family's looks); each row that meets fmt, with fmt's text TOLD by the authors' own Lean function (tested against real Go, not proved from fmt's source: count such statements apart). THE CARD IS WHAT COUNTS. Prove the row's statement (the work); the ties are given (YtbcpcneadjcmlaaGreatDoorTie.lean); close each card by the builder's one call (the guide's Derived/Test/ToyasCard.lean, 'card_holds'). Laid BY PROGRAM, IN A SANDBOX (cutbox-door.mjs). By AI agents, Wed Nov 11 2026. No macro, syntax, notation, axiom, sorry.
-/
import Derived.Test.YtbcpcneadjcmlaaGreatDoorRows
import GoSem.ClaimSeven
namespace Go.Proofs.YtbcpcneadjcmlaaGreatDoor
namespace Rows

/-- THE TIED CARD OF 'foyertop.TopCompiled'. -/
def topCompiledCard : Claim7 := { stood := { row := topCompiledRow, standIns := [], harness := (true, "eec3f6f7081aab3cc15648c2ff774a920d1f630e419a5ac8df30d41de8e4eb2e"), looks := true }, kinds := [], alts := [], laidByText := true, laidKinds := [.data, .data, .data, .sentinel, .sentinel], laidTests := true, laidLooks := .later }
def TopCompiledCardSaid : Prop := Claim7.holds Tryz.pinned (.plain (OpenSpec.ofChange topCompiledSpec)) topCompiledCard

/-- THE TIED CARD OF 'foyertop.TopSilent'. -/
def topSilentCard : Claim7 := { stood := { row := topSilentRow, standIns := [], harness := (true, "eec3f6f7081aab3cc15648c2ff774a920d1f630e419a5ac8df30d41de8e4eb2e"), looks := true }, kinds := [], alts := [], laidByText := true, laidKinds := [.data, .data, .data, .sentinel, .sentinel], laidTests := true, laidLooks := .later }
def TopSilentCardSaid : Prop := Claim7.holds Tryz.pinned (.plain (OpenSpec.ofChange topSilentSpec)) topSilentCard

/-- THE SECOND FORM's CARD OF 'foyertop.TopCompiled'. -/
def topCompiledUptoCard : Claim7 := { stood := { row := topCompiledUptoRow, standIns := [], harness := (true, "eec3f6f7081aab3cc15648c2ff774a920d1f630e419a5ac8df30d41de8e4eb2e"), looks := true }, kinds := [], alts := [], laidByText := true, laidKinds := [.data, .data, .data, .sentinel, .sentinel], laidTests := true, laidLooks := .later }
def TopCompiledUptoCardSaid : Prop := Claim7.holds Tryz.pinned (.plain (OpenSpec.upto topCompiledSpec)) topCompiledUptoCard

/-- THE SECOND FORM's CARD OF 'foyertop.TopSilent'. -/
def topSilentUptoCard : Claim7 := { stood := { row := topSilentUptoRow, standIns := [], harness := (true, "eec3f6f7081aab3cc15648c2ff774a920d1f630e419a5ac8df30d41de8e4eb2e"), looks := true }, kinds := [], alts := [], laidByText := true, laidKinds := [.data, .data, .data, .sentinel, .sentinel], laidTests := true, laidLooks := .later }
def TopSilentUptoCardSaid : Prop := Claim7.holds Tryz.pinned (.plain (OpenSpec.upto topSilentSpec)) topSilentUptoCard
end Rows
end Go.Proofs.YtbcpcneadjcmlaaGreatDoor
