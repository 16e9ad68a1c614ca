/-
  DERIVED. GIVEN WITH THE SEED: THE CARDS: each row of YtgafnjgiikdofaaGreatDoorRows.lean that lists a variable, with what it lists TIED to the program's text (the seventh form; the later family's looks); each row that meets fmt, with fmt's text TOLD by the authors' own Lean function (tested against real Go, not proved from fmt's source: count such statements apart). THE CARD IS WHAT COUNTS. Prove the row's statement (the work); the ties are given (YtgafnjgiikdofaaGreatDoorTie.lean); close each card by the builder's one call (the guide's Derived/Test/ToyasCard.lean, 'card_holds'). Laid BY PROGRAM, IN A SANDBOX (cutbox-door.mjs). By AI agents, Wed Nov 11 2026. No macro, syntax, notation, axiom, sorry.
-/
import Derived.Test.YtgafnjgiikdofaaGreatDoorRows
import GoSem.ClaimSeven
namespace Go.Proofs.YtgafnjgiikdofaaGreatDoor
namespace Rows

/-- THE TIED CARD OF 'icehouselaw02.LabelQuotes'. -/
def labelQuotesCard : Claim7 := { stood := { row := labelQuotesRow, standIns := [], harness := (true, "6350f74dc48b1d76bc1606caf7da9795bdd8daa3a60564a40958f66b86c73fd9"), looks := true }, kinds := [], alts := [], laidByText := true, laidKinds := [.data, .data, .data, .data, .sentinel, .sentinel, .pinned], laidTests := true, laidLooks := .later }
def LabelQuotesCardSaid : Prop := Claim7.holds Tryz.pinned (.plain (OpenSpec.ofChange labelQuotesSpec)) labelQuotesCard

/-- THE TIED CARD OF 'icehouselaw02.LabelTexts'. -/
def labelTextsCard : Claim7 := { stood := { row := labelTextsRow, standIns := [], harness := (true, "6350f74dc48b1d76bc1606caf7da9795bdd8daa3a60564a40958f66b86c73fd9"), looks := true }, kinds := [], alts := [], laidByText := true, laidKinds := [.data, .data, .data, .data, .sentinel, .sentinel, .pinned], laidTests := true, laidLooks := .later }
def LabelTextsCardSaid : Prop := Claim7.holds Tryz.pinned (.plain (OpenSpec.ofChange labelTextsSpec)) labelTextsCard

/-- THE TIED CARD OF 'icehouselaw02.LabelWhich'. -/
def labelWhichCard : Claim7 := { stood := { row := labelWhichRow, standIns := [], harness := (true, "6350f74dc48b1d76bc1606caf7da9795bdd8daa3a60564a40958f66b86c73fd9"), looks := true }, kinds := [], alts := [], laidByText := true, laidKinds := [.data, .data, .data, .data, .sentinel, .sentinel, .pinned], laidTests := true, laidLooks := .later }
def LabelWhichCardSaid : Prop := Claim7.holds Tryz.pinned (.plain (OpenSpec.ofChange labelWhichSpec)) labelWhichCard

/-- THE TIED CARD OF 'icehouselaw02.LabelCompares'. -/
def labelComparesCard : Claim7 := { stood := { row := labelComparesRow, standIns := [], harness := (true, "6350f74dc48b1d76bc1606caf7da9795bdd8daa3a60564a40958f66b86c73fd9"), looks := true }, kinds := [], alts := [], laidByText := true, laidKinds := [.data, .data, .data, .data, .sentinel, .sentinel, .pinned], laidTests := true, laidLooks := .later }
def LabelComparesCardSaid : Prop := Claim7.holds Tryz.pinned (.plain (OpenSpec.ofChange labelComparesSpec)) labelComparesCard

/-- THE TIED CARD OF 'icehouselaw02.LabelOrder'. -/
def labelOrderCard : Claim7 := { stood := { row := labelOrderRow, standIns := [], harness := (true, "6350f74dc48b1d76bc1606caf7da9795bdd8daa3a60564a40958f66b86c73fd9"), looks := true }, kinds := [], alts := [], laidByText := true, laidKinds := [.data, .data, .data, .data, .sentinel, .sentinel, .pinned], laidTests := true, laidLooks := .later }
def LabelOrderCardSaid : Prop := Claim7.holds Tryz.pinned (.plain (OpenSpec.ofChange labelOrderSpec)) labelOrderCard

/-- THE TIED CARD OF 'icehouselaw02.LabelOne'. -/
def labelOneCard : Claim7 := { stood := { row := labelOneRow, standIns := [], harness := (true, "6350f74dc48b1d76bc1606caf7da9795bdd8daa3a60564a40958f66b86c73fd9"), looks := true }, kinds := [], alts := [], laidByText := true, laidKinds := [.data, .data, .data, .data, .sentinel, .sentinel, .pinned], laidTests := true, laidLooks := .later }
def LabelOneCardSaid : Prop := Claim7.holds Tryz.pinned (.plain (OpenSpec.ofChange labelOneSpec)) labelOneCard

/-- THE TIED CARD OF 'icehouselaw02.LabelBytes'. -/
def labelBytesCard : Claim7 := { stood := { row := labelBytesRow, standIns := [], harness := (true, "6350f74dc48b1d76bc1606caf7da9795bdd8daa3a60564a40958f66b86c73fd9"), looks := true }, kinds := [], alts := [], laidByText := true, laidKinds := [.data, .data, .data, .data, .sentinel, .sentinel, .pinned], laidTests := true, laidLooks := .later }
def LabelBytesCardSaid : Prop := Claim7.holds Tryz.pinned (.plain (OpenSpec.ofChange labelBytesSpec)) labelBytesCard

/-- THE TIED CARD OF 'icehouselaw02.LabelBack'. -/
def labelBackCard : Claim7 := { stood := { row := labelBackRow, standIns := [], harness := (true, "6350f74dc48b1d76bc1606caf7da9795bdd8daa3a60564a40958f66b86c73fd9"), looks := true }, kinds := [], alts := [], laidByText := true, laidKinds := [.data, .data, .data, .data, .sentinel, .sentinel, .pinned], laidTests := true, laidLooks := .later }
def LabelBackCardSaid : Prop := Claim7.holds Tryz.pinned (.plain (OpenSpec.ofChange labelBackSpec)) labelBackCard

/-- THE SECOND FORM's CARD OF 'icehouselaw02.LabelQuotes'. -/
def labelQuotesUptoCard : Claim7 := { stood := { row := labelQuotesUptoRow, standIns := [], harness := (true, "6350f74dc48b1d76bc1606caf7da9795bdd8daa3a60564a40958f66b86c73fd9"), looks := true }, kinds := [], alts := [], laidByText := true, laidKinds := [.data, .data, .data, .data, .sentinel, .sentinel, .pinned], laidTests := true, laidLooks := .later }
def LabelQuotesUptoCardSaid : Prop := Claim7.holds Tryz.pinned (.plain (OpenSpec.upto labelQuotesSpec)) labelQuotesUptoCard

/-- THE SECOND FORM's CARD OF 'icehouselaw02.LabelTexts'. -/
def labelTextsUptoCard : Claim7 := { stood := { row := labelTextsUptoRow, standIns := [], harness := (true, "6350f74dc48b1d76bc1606caf7da9795bdd8daa3a60564a40958f66b86c73fd9"), looks := true }, kinds := [], alts := [], laidByText := true, laidKinds := [.data, .data, .data, .data, .sentinel, .sentinel, .pinned], laidTests := true, laidLooks := .later }
def LabelTextsUptoCardSaid : Prop := Claim7.holds Tryz.pinned (.plain (OpenSpec.upto labelTextsSpec)) labelTextsUptoCard

/-- THE SECOND FORM's CARD OF 'icehouselaw02.LabelWhich'. -/
def labelWhichUptoCard : Claim7 := { stood := { row := labelWhichUptoRow, standIns := [], harness := (true, "6350f74dc48b1d76bc1606caf7da9795bdd8daa3a60564a40958f66b86c73fd9"), looks := true }, kinds := [], alts := [], laidByText := true, laidKinds := [.data, .data, .data, .data, .sentinel, .sentinel, .pinned], laidTests := true, laidLooks := .later }
def LabelWhichUptoCardSaid : Prop := Claim7.holds Tryz.pinned (.plain (OpenSpec.upto labelWhichSpec)) labelWhichUptoCard

/-- THE SECOND FORM's CARD OF 'icehouselaw02.LabelCompares'. -/
def labelComparesUptoCard : Claim7 := { stood := { row := labelComparesUptoRow, standIns := [], harness := (true, "6350f74dc48b1d76bc1606caf7da9795bdd8daa3a60564a40958f66b86c73fd9"), looks := true }, kinds := [], alts := [], laidByText := true, laidKinds := [.data, .data, .data, .data, .sentinel, .sentinel, .pinned], laidTests := true, laidLooks := .later }
def LabelComparesUptoCardSaid : Prop := Claim7.holds Tryz.pinned (.plain (OpenSpec.upto labelComparesSpec)) labelComparesUptoCard

/-- THE SECOND FORM's CARD OF 'icehouselaw02.LabelOrder'. -/
def labelOrderUptoCard : Claim7 := { stood := { row := labelOrderUptoRow, standIns := [], harness := (true, "6350f74dc48b1d76bc1606caf7da9795bdd8daa3a60564a40958f66b86c73fd9"), looks := true }, kinds := [], alts := [], laidByText := true, laidKinds := [.data, .data, .data, .data, .sentinel, .sentinel, .pinned], laidTests := true, laidLooks := .later }
def LabelOrderUptoCardSaid : Prop := Claim7.holds Tryz.pinned (.plain (OpenSpec.upto labelOrderSpec)) labelOrderUptoCard

/-- THE SECOND FORM's CARD OF 'icehouselaw02.LabelOne'. -/
def labelOneUptoCard : Claim7 := { stood := { row := labelOneUptoRow, standIns := [], harness := (true, "6350f74dc48b1d76bc1606caf7da9795bdd8daa3a60564a40958f66b86c73fd9"), looks := true }, kinds := [], alts := [], laidByText := true, laidKinds := [.data, .data, .data, .data, .sentinel, .sentinel, .pinned], laidTests := true, laidLooks := .later }
def LabelOneUptoCardSaid : Prop := Claim7.holds Tryz.pinned (.plain (OpenSpec.upto labelOneSpec)) labelOneUptoCard

/-- THE SECOND FORM's CARD OF 'icehouselaw02.LabelBytes'. -/
def labelBytesUptoCard : Claim7 := { stood := { row := labelBytesUptoRow, standIns := [], harness := (true, "6350f74dc48b1d76bc1606caf7da9795bdd8daa3a60564a40958f66b86c73fd9"), looks := true }, kinds := [], alts := [], laidByText := true, laidKinds := [.data, .data, .data, .data, .sentinel, .sentinel, .pinned], laidTests := true, laidLooks := .later }
def LabelBytesUptoCardSaid : Prop := Claim7.holds Tryz.pinned (.plain (OpenSpec.upto labelBytesSpec)) labelBytesUptoCard

/-- THE SECOND FORM's CARD OF 'icehouselaw02.LabelBack'. -/
def labelBackUptoCard : Claim7 := { stood := { row := labelBackUptoRow, standIns := [], harness := (true, "6350f74dc48b1d76bc1606caf7da9795bdd8daa3a60564a40958f66b86c73fd9"), looks := true }, kinds := [], alts := [], laidByText := true, laidKinds := [.data, .data, .data, .data, .sentinel, .sentinel, .pinned], laidTests := true, laidLooks := .later }
def LabelBackUptoCardSaid : Prop := Claim7.holds Tryz.pinned (.plain (OpenSpec.upto labelBackSpec)) labelBackUptoCard
end Rows
end Go.Proofs.YtgafnjgiikdofaaGreatDoor
