/-
  DERIVED. GIVEN WITH THE SEED: THE CARDS: each row of YtjfpfmknngkgaaaDoorRows.lean that lists a variable, with what it lists TIED to the program's text (the seventh form; the later family's looks); each row that meets fmt, with fmt's text TOLD by the authors' own Lean function (tested against real Go, not proved from fmt's source: count such statements apart). THE CARD IS WHAT COUNTS. Prove the row's statement (the work); the ties are given (YtjfpfmknngkgaaaDoorTie.lean); close each card by the builder's one call (the guide's Derived/Test/ToyasCard.lean, 'card_holds'). Laid BY PROGRAM, IN A SANDBOX (cutbox-door.mjs). By AI agents, Wed Nov 11 2026. No macro, syntax, notation, axiom, sorry.
-/
import Derived.Test.YtjfpfmknngkgaaaDoorRows
import GoSem.ClaimSeven
namespace Go.Proofs.YtjfpfmknngkgaaaDoor
namespace Rows

/-- THE TIED CARD OF 'regletlaw09.StylePrints'. -/
def stylePrintsCard : Claim7 := { stood := { row := stylePrintsRow, standIns := [], harness := (true, "e17723195c0c78411232d8106c8ccab702b338d1b3a9afc62d43f8e7c848f04b"), looks := true }, kinds := [], alts := [], laidByText := true, laidKinds := [.data, .data, .data], laidTests := true, laidLooks := .later }
def StylePrintsCardSaid : Prop := Claim7.holds Tryd.pinned (.plain (OpenSpec.ofChange stylePrintsSpec)) stylePrintsCard

/-- THE TIED CARD OF 'regletlaw09.StyleReads'. -/
def styleReadsCard : Claim7 := { stood := { row := styleReadsRow, standIns := [], harness := (true, "e17723195c0c78411232d8106c8ccab702b338d1b3a9afc62d43f8e7c848f04b"), looks := true }, kinds := [], alts := [], laidByText := true, laidKinds := [.data, .data, .data, .data, .sentinel, .sentinel, .pinned], laidTests := true, laidLooks := .later }
def StyleReadsCardSaid : Prop := Claim7.holds Tryd.pinned (.plain (OpenSpec.ofChange styleReadsSpec)) styleReadsCard

/-- THE TIED CARD OF 'regletlaw09.StyleOrder'. -/
def styleOrderCard : Claim7 := { stood := { row := styleOrderRow, standIns := [], harness := (true, "e17723195c0c78411232d8106c8ccab702b338d1b3a9afc62d43f8e7c848f04b"), looks := true }, kinds := [], alts := [], laidByText := true, laidKinds := [.data, .data, .data, .data, .sentinel, .sentinel, .pinned], laidTests := true, laidLooks := .later }
def StyleOrderCardSaid : Prop := Claim7.holds Tryd.pinned (.plain (OpenSpec.ofChange styleOrderSpec)) styleOrderCard

/-- THE TIED CARD OF 'regletlaw09.StyleNames'. -/
def styleNamesCard : Claim7 := { stood := { row := styleNamesRow, standIns := [], harness := (true, "e17723195c0c78411232d8106c8ccab702b338d1b3a9afc62d43f8e7c848f04b"), looks := true }, kinds := [], alts := [], laidByText := true, laidKinds := [.data, .data, .data, .data, .sentinel, .sentinel, .pinned], laidTests := true, laidLooks := .later }
def StyleNamesCardSaid : Prop := Claim7.holds Tryd.pinned (.plain (OpenSpec.ofChange styleNamesSpec)) styleNamesCard

/-- THE TIED CARD OF 'regletlaw09.StyleBack'. -/
def styleBackCard : Claim7 := { stood := { row := styleBackRow, standIns := [], harness := (true, "e17723195c0c78411232d8106c8ccab702b338d1b3a9afc62d43f8e7c848f04b"), looks := true }, kinds := [], alts := [], laidByText := true, laidKinds := [.data, .data, .data, .data, .sentinel, .sentinel, .pinned], laidTests := true, laidLooks := .later }
def StyleBackCardSaid : Prop := Claim7.holds Tryd.pinned (.plain (OpenSpec.ofChange styleBackSpec)) styleBackCard

/-- THE SECOND FORM's CARD OF 'regletlaw09.StylePrints'. -/
def stylePrintsUptoCard : Claim7 := { stood := { row := stylePrintsUptoRow, standIns := [], harness := (true, "e17723195c0c78411232d8106c8ccab702b338d1b3a9afc62d43f8e7c848f04b"), looks := true }, kinds := [], alts := [], laidByText := true, laidKinds := [.data, .data, .data], laidTests := true, laidLooks := .later }
def StylePrintsUptoCardSaid : Prop := Claim7.holds Tryd.pinned (.plain (OpenSpec.upto stylePrintsSpec)) stylePrintsUptoCard

/-- THE SECOND FORM's CARD OF 'regletlaw09.StyleReads'. -/
def styleReadsUptoCard : Claim7 := { stood := { row := styleReadsUptoRow, standIns := [], harness := (true, "e17723195c0c78411232d8106c8ccab702b338d1b3a9afc62d43f8e7c848f04b"), looks := true }, kinds := [], alts := [], laidByText := true, laidKinds := [.data, .data, .data, .data, .sentinel, .sentinel, .pinned], laidTests := true, laidLooks := .later }
def StyleReadsUptoCardSaid : Prop := Claim7.holds Tryd.pinned (.plain (OpenSpec.upto styleReadsSpec)) styleReadsUptoCard

/-- THE SECOND FORM's CARD OF 'regletlaw09.StyleOrder'. -/
def styleOrderUptoCard : Claim7 := { stood := { row := styleOrderUptoRow, standIns := [], harness := (true, "e17723195c0c78411232d8106c8ccab702b338d1b3a9afc62d43f8e7c848f04b"), looks := true }, kinds := [], alts := [], laidByText := true, laidKinds := [.data, .data, .data, .data, .sentinel, .sentinel, .pinned], laidTests := true, laidLooks := .later }
def StyleOrderUptoCardSaid : Prop := Claim7.holds Tryd.pinned (.plain (OpenSpec.upto styleOrderSpec)) styleOrderUptoCard

/-- THE SECOND FORM's CARD OF 'regletlaw09.StyleNames'. -/
def styleNamesUptoCard : Claim7 := { stood := { row := styleNamesUptoRow, standIns := [], harness := (true, "e17723195c0c78411232d8106c8ccab702b338d1b3a9afc62d43f8e7c848f04b"), looks := true }, kinds := [], alts := [], laidByText := true, laidKinds := [.data, .data, .data, .data, .sentinel, .sentinel, .pinned], laidTests := true, laidLooks := .later }
def StyleNamesUptoCardSaid : Prop := Claim7.holds Tryd.pinned (.plain (OpenSpec.upto styleNamesSpec)) styleNamesUptoCard

/-- THE SECOND FORM's CARD OF 'regletlaw09.StyleBack'. -/
def styleBackUptoCard : Claim7 := { stood := { row := styleBackUptoRow, standIns := [], harness := (true, "e17723195c0c78411232d8106c8ccab702b338d1b3a9afc62d43f8e7c848f04b"), looks := true }, kinds := [], alts := [], laidByText := true, laidKinds := [.data, .data, .data, .data, .sentinel, .sentinel, .pinned], laidTests := true, laidLooks := .later }
def StyleBackUptoCardSaid : Prop := Claim7.holds Tryd.pinned (.plain (OpenSpec.upto styleBackSpec)) styleBackUptoCard
end Rows
end Go.Proofs.YtjfpfmknngkgaaaDoor
