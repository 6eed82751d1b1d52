/-
  DERIVED. GIVEN WITH THE SEED: THE CARDS: each row of YtapojgbiboeaiaaDoorRows.lean that lists a variable, with what it lists TIED to the program's text (the seventh form; the later family's looks); each row that meets fmt, with fmt's text TOLD by the authors' own Lean function (tested against real Go, not proved from fmt's source: count such statements apart). THE CARD IS WHAT COUNTS. Prove the row's statement (the work); the ties are given (YtapojgbiboeaiaaDoorTie.lean); close each card by the builder's one call (the guide's Derived/Test/ToyasCard.lean, 'card_holds'). Laid BY PROGRAM, IN A SANDBOX (cutbox-door.mjs). By AI agents, Wed Nov 11 2026. No macro, syntax, notation, axiom, sorry.
-/
import Derived.Test.YtapojgbiboeaiaaDoorRows
import GoSem.ClaimSeven
namespace Go.Proofs.YtapojgbiboeaiaaDoor
namespace Rows

/-- THE TIED CARD OF 'regletlaw19.SpansTold'. -/
def spansToldCard : Claim7 := { stood := { row := spansToldRow, standIns := [], harness := (true, "75418c33d7a5d5836d24b49af5cd63b5ad8f83193a92b0a36f0a97f31cff31c8"), looks := true }, kinds := [], alts := [], laidByText := true, laidKinds := [.data, .data, .data, .data, .sentinel, .sentinel, .pinned], laidTests := true, laidLooks := .later }
def SpansToldCardSaid : Prop := Claim7.holds Tryd.pinned (.plain (OpenSpec.ofChange spansToldSpec)) spansToldCard

/-- THE TIED CARD OF 'regletlaw19.SpansOf'. -/
def spansOfCard : Claim7 := { stood := { row := spansOfRow, standIns := [], harness := (true, "75418c33d7a5d5836d24b49af5cd63b5ad8f83193a92b0a36f0a97f31cff31c8"), looks := true }, kinds := [], alts := [], laidByText := true, laidKinds := [.data, .data, .data, .data, .sentinel, .sentinel, .pinned], laidTests := true, laidLooks := .later }
def SpansOfCardSaid : Prop := Claim7.holds Tryd.pinned (.plain (OpenSpec.ofChange spansOfSpec)) spansOfCard

/-- THE TIED CARD OF 'regletlaw19.SpansMeet'. -/
def spansMeetCard : Claim7 := { stood := { row := spansMeetRow, standIns := [], harness := (true, "75418c33d7a5d5836d24b49af5cd63b5ad8f83193a92b0a36f0a97f31cff31c8"), looks := true }, kinds := [], alts := [], laidByText := true, laidKinds := [.data, .data, .data, .data, .sentinel, .sentinel, .pinned], laidTests := true, laidLooks := .later }
def SpansMeetCardSaid : Prop := Claim7.holds Tryd.pinned (.plain (OpenSpec.ofChange spansMeetSpec)) spansMeetCard

/-- THE TIED CARD OF 'regletlaw19.SpansOrders'. -/
def spansOrdersCard : Claim7 := { stood := { row := spansOrdersRow, standIns := [], harness := (true, "75418c33d7a5d5836d24b49af5cd63b5ad8f83193a92b0a36f0a97f31cff31c8"), looks := true }, kinds := [], alts := [], laidByText := true, laidKinds := [.data, .data, .data, .data, .sentinel, .sentinel, .pinned], laidTests := true, laidLooks := .later }
def SpansOrdersCardSaid : Prop := Claim7.holds Tryd.pinned (.plain (OpenSpec.ofChange spansOrdersSpec)) spansOrdersCard

/-- THE TIED CARD OF 'regletlaw19.SpansBack'. -/
def spansBackCard : Claim7 := { stood := { row := spansBackRow, standIns := [], harness := (true, "75418c33d7a5d5836d24b49af5cd63b5ad8f83193a92b0a36f0a97f31cff31c8"), looks := true }, kinds := [], alts := [], laidByText := true, laidKinds := [.data, .data, .data, .data, .sentinel, .sentinel, .pinned], laidTests := true, laidLooks := .later }
def SpansBackCardSaid : Prop := Claim7.holds Tryd.pinned (.plain (OpenSpec.ofChange spansBackSpec)) spansBackCard

/-- THE SECOND FORM's CARD OF 'regletlaw19.SpansTold'. -/
def spansToldUptoCard : Claim7 := { stood := { row := spansToldUptoRow, standIns := [], harness := (true, "75418c33d7a5d5836d24b49af5cd63b5ad8f83193a92b0a36f0a97f31cff31c8"), looks := true }, kinds := [], alts := [], laidByText := true, laidKinds := [.data, .data, .data, .data, .sentinel, .sentinel, .pinned], laidTests := true, laidLooks := .later }
def SpansToldUptoCardSaid : Prop := Claim7.holds Tryd.pinned (.plain (OpenSpec.upto spansToldSpec)) spansToldUptoCard

/-- THE SECOND FORM's CARD OF 'regletlaw19.SpansOf'. -/
def spansOfUptoCard : Claim7 := { stood := { row := spansOfUptoRow, standIns := [], harness := (true, "75418c33d7a5d5836d24b49af5cd63b5ad8f83193a92b0a36f0a97f31cff31c8"), looks := true }, kinds := [], alts := [], laidByText := true, laidKinds := [.data, .data, .data, .data, .sentinel, .sentinel, .pinned], laidTests := true, laidLooks := .later }
def SpansOfUptoCardSaid : Prop := Claim7.holds Tryd.pinned (.plain (OpenSpec.upto spansOfSpec)) spansOfUptoCard

/-- THE SECOND FORM's CARD OF 'regletlaw19.SpansMeet'. -/
def spansMeetUptoCard : Claim7 := { stood := { row := spansMeetUptoRow, standIns := [], harness := (true, "75418c33d7a5d5836d24b49af5cd63b5ad8f83193a92b0a36f0a97f31cff31c8"), looks := true }, kinds := [], alts := [], laidByText := true, laidKinds := [.data, .data, .data, .data, .sentinel, .sentinel, .pinned], laidTests := true, laidLooks := .later }
def SpansMeetUptoCardSaid : Prop := Claim7.holds Tryd.pinned (.plain (OpenSpec.upto spansMeetSpec)) spansMeetUptoCard

/-- THE SECOND FORM's CARD OF 'regletlaw19.SpansOrders'. -/
def spansOrdersUptoCard : Claim7 := { stood := { row := spansOrdersUptoRow, standIns := [], harness := (true, "75418c33d7a5d5836d24b49af5cd63b5ad8f83193a92b0a36f0a97f31cff31c8"), looks := true }, kinds := [], alts := [], laidByText := true, laidKinds := [.data, .data, .data, .data, .sentinel, .sentinel, .pinned], laidTests := true, laidLooks := .later }
def SpansOrdersUptoCardSaid : Prop := Claim7.holds Tryd.pinned (.plain (OpenSpec.upto spansOrdersSpec)) spansOrdersUptoCard

/-- THE SECOND FORM's CARD OF 'regletlaw19.SpansBack'. -/
def spansBackUptoCard : Claim7 := { stood := { row := spansBackUptoRow, standIns := [], harness := (true, "75418c33d7a5d5836d24b49af5cd63b5ad8f83193a92b0a36f0a97f31cff31c8"), looks := true }, kinds := [], alts := [], laidByText := true, laidKinds := [.data, .data, .data, .data, .sentinel, .sentinel, .pinned], laidTests := true, laidLooks := .later }
def SpansBackUptoCardSaid : Prop := Claim7.holds Tryd.pinned (.plain (OpenSpec.upto spansBackSpec)) spansBackUptoCard
end Rows
end Go.Proofs.YtapojgbiboeaiaaDoor
