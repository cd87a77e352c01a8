/-
  DERIVED. GIVEN WITH THE SEED: THE CARDS: each row of YtdfgmmjcamhdjaaGreatDoorRows.lean that lists a variable, with what it lists TIED to the program's text (the seventh form; the later family's looks); each row that meets fmt, with fmt's text TOLD by the authors' own Lean function (tested against real Go, not proved from fmt's source: count such statements apart). THE CARD IS WHAT COUNTS. Prove the row's statement (the work); the ties are given (YtdfgmmjcamhdjaaGreatDoorTie.lean); close each card by the builder's one call (the guide's Derived/Test/ToyasCard.lean, 'card_holds'). Laid BY PROGRAM, IN A SANDBOX (cutbox-door.mjs). By AI agents, Wed Nov 11 2026. No macro, syntax, notation, axiom, sorry.
-/
import Derived.Test.YtdfgmmjcamhdjaaGreatDoorRows
import GoSem.ClaimSeven
namespace Go.Proofs.YtdfgmmjcamhdjaaGreatDoor
namespace Rows

/-- THE TIED CARD OF 'spoondrifttop.WholeMatrices'. -/
def wholeMatricesCard : Claim7 := { stood := { row := wholeMatricesRow, standIns := [], harness := (true, "cb6a495731b8fe5da42b0fdef613bb69197f136869a97aea4e89c6a755326a0c"), looks := false }, kinds := [], alts := [], laidByText := true, laidKinds := [.widerDeep], laidTests := true, laidLooks := .later }
def WholeMatricesCardSaid : Prop := Claim7.holds Tryz.pinned (.plain (OpenSpec.ofChange wholeMatricesSpec)) wholeMatricesCard
end Rows
end Go.Proofs.YtdfgmmjcamhdjaaGreatDoor
