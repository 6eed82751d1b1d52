/-
  DERIVED. GIVEN WITH THE SEED: THE CARDS: each row of YtifbjccioklaoaaDoorRows.lean that lists a variable, with what it lists TIED to the program's text (the seventh form; the later family's looks); each row that meets fmt, with fmt's text TOLD by the authors' own Lean function (tested against real Go, not proved from fmt's source: count such statements apart). THE CARD IS WHAT COUNTS. Prove the row's statement (the work); the ties are given (YtifbjccioklaoaaDoorTie.lean); close each card by the builder's one call (the guide's Derived/Test/ToyasCard.lean, 'card_holds'). Laid BY PROGRAM, IN A SANDBOX (cutbox-door.mjs). By AI agents, Wed Nov 11 2026. No macro, syntax, notation, axiom, sorry.
-/
import Derived.Test.YtifbjccioklaoaaDoorRows
import GoSem.ClaimSeven
namespace Go.Proofs.YtifbjccioklaoaaDoor
namespace Rows

/-- THE TIED CARD OF 'regletlaw22.TreeUnder'. -/
def treeUnderCard : Claim7 := { stood := { row := treeUnderRow, standIns := [], harness := (true, "e67435a47ef8ce59886f8088b98ed308696a68e503ec9ae70b5d903021e8c8cb"), looks := true }, kinds := [], alts := [], laidByText := true, laidKinds := [.data, .pinned], laidTests := true, laidLooks := .later }
def TreeUnderCardSaid : Prop := Claim7.holds Tryd.pinned (.plain (OpenSpec.ofChange treeUnderSpec)) treeUnderCard

/-- THE TIED CARD OF 'regletlaw22.TreeHolds'. -/
def treeHoldsCard : Claim7 := { stood := { row := treeHoldsRow, standIns := [], harness := (true, "e67435a47ef8ce59886f8088b98ed308696a68e503ec9ae70b5d903021e8c8cb"), looks := true }, kinds := [], alts := [], laidByText := true, laidKinds := [.data, .pinned], laidTests := true, laidLooks := .later }
def TreeHoldsCardSaid : Prop := Claim7.holds Tryd.pinned (.plain (OpenSpec.ofChange treeHoldsSpec)) treeHoldsCard

/-- THE TIED CARD OF 'regletlaw22.TreeNear'. -/
def treeNearCard : Claim7 := { stood := { row := treeNearRow, standIns := [], harness := (true, "e67435a47ef8ce59886f8088b98ed308696a68e503ec9ae70b5d903021e8c8cb"), looks := true }, kinds := [], alts := [], laidByText := true, laidKinds := [.data, .data, .data, .data, .sentinel, .sentinel, .pinned], laidTests := true, laidLooks := .later }
def TreeNearCardSaid : Prop := Claim7.holds Tryd.pinned (.plain (OpenSpec.ofChange treeNearSpec)) treeNearCard

/-- THE SECOND FORM's CARD OF 'regletlaw22.TreeUnder'. -/
def treeUnderUptoCard : Claim7 := { stood := { row := treeUnderUptoRow, standIns := [], harness := (true, "e67435a47ef8ce59886f8088b98ed308696a68e503ec9ae70b5d903021e8c8cb"), looks := true }, kinds := [], alts := [], laidByText := true, laidKinds := [.data, .pinned], laidTests := true, laidLooks := .later }
def TreeUnderUptoCardSaid : Prop := Claim7.holds Tryd.pinned (.plain (OpenSpec.upto treeUnderSpec)) treeUnderUptoCard

/-- THE SECOND FORM's CARD OF 'regletlaw22.TreeHolds'. -/
def treeHoldsUptoCard : Claim7 := { stood := { row := treeHoldsUptoRow, standIns := [], harness := (true, "e67435a47ef8ce59886f8088b98ed308696a68e503ec9ae70b5d903021e8c8cb"), looks := true }, kinds := [], alts := [], laidByText := true, laidKinds := [.data, .pinned], laidTests := true, laidLooks := .later }
def TreeHoldsUptoCardSaid : Prop := Claim7.holds Tryd.pinned (.plain (OpenSpec.upto treeHoldsSpec)) treeHoldsUptoCard

/-- THE SECOND FORM's CARD OF 'regletlaw22.TreeNear'. -/
def treeNearUptoCard : Claim7 := { stood := { row := treeNearUptoRow, standIns := [], harness := (true, "e67435a47ef8ce59886f8088b98ed308696a68e503ec9ae70b5d903021e8c8cb"), looks := true }, kinds := [], alts := [], laidByText := true, laidKinds := [.data, .data, .data, .data, .sentinel, .sentinel, .pinned], laidTests := true, laidLooks := .later }
def TreeNearUptoCardSaid : Prop := Claim7.holds Tryd.pinned (.plain (OpenSpec.upto treeNearSpec)) treeNearUptoCard
end Rows
end Go.Proofs.YtifbjccioklaoaaDoor
