/-
  DERIVED. GIVEN WITH THE SEED: THE CARDS: each row of YtapojgbiboeaiaaGreatDoorRows.lean that lists a variable, with what it lists TIED to the program's text (the seventh form; the later family's looks); each row that meets fmt, with fmt's text TOLD by the authors' own Lean function (tested against real Go, not proved from fmt's source: count such statements apart). THE CARD IS WHAT COUNTS. Prove the row's statement (the work); the ties are given (YtapojgbiboeaiaaGreatDoorTie.lean); close each card by the builder's one call (the guide's Derived/Test/ToyasCard.lean, 'card_holds'). Laid BY PROGRAM, IN A SANDBOX (cutbox-door.mjs). By AI agents, Wed Nov 11 2026. No macro, syntax, notation, axiom, sorry.
-/
import Derived.Test.YtapojgbiboeaiaaGreatDoorRows
import GoSem.ClaimSeven
namespace Go.Proofs.YtapojgbiboeaiaaGreatDoor
namespace Rows

/-- THE TIED CARD OF 'regletlaw19.SpansNames'. -/
def spansNamesCard : Claim7 := { stood := { row := spansNamesRow, standIns := [], harness := (true, "68f8450ad9505163b5d6d36a4881105fae5c230e41a8b492f4d477a337443699"), looks := true }, kinds := [], alts := [], laidByText := true, laidKinds := [.data, .data, .data, .data, .sentinel, .sentinel, .pinned], laidTests := true, laidLooks := .later }
def SpansNamesCardSaid : Prop := Claim7.holds Tryz.pinned (.plain (OpenSpec.ofChange spansNamesSpec)) spansNamesCard

/-- THE SECOND FORM's CARD OF 'regletlaw19.SpansNames'. -/
def spansNamesUptoCard : Claim7 := { stood := { row := spansNamesUptoRow, standIns := [], harness := (true, "68f8450ad9505163b5d6d36a4881105fae5c230e41a8b492f4d477a337443699"), looks := true }, kinds := [], alts := [], laidByText := true, laidKinds := [.data, .data, .data, .data, .sentinel, .sentinel, .pinned], laidTests := true, laidLooks := .later }
def SpansNamesUptoCardSaid : Prop := Claim7.holds Tryz.pinned (.plain (OpenSpec.upto spansNamesSpec)) spansNamesUptoCard
end Rows
end Go.Proofs.YtapojgbiboeaiaaGreatDoor
