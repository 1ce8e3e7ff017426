/-
  DERIVED. GIVEN WITH THE SEED: THE CARDS: each row of YthkegefjmcipmaaDoorRows.lean that lists a variable, with what it lists TIED to the program's text (the seventh form; the later family's looks); each row that meets fmt, with fmt's text TOLD by the authors' own Lean function (tested against real Go, not proved from fmt's source: count such statements apart). THE CARD IS WHAT COUNTS. Prove the row's statement (the work); the ties are given (YthkegefjmcipmaaDoorTie.lean); close each card by the builder's one call (the guide's Derived/Test/ToyasCard.lean, 'card_holds'). Laid BY PROGRAM, IN A SANDBOX (cutbox-door.mjs). By AI agents, Wed Nov 11 2026. No macro, syntax, notation, axiom, sorry.
-/
import Derived.Test.YthkegefjmcipmaaDoorRows
import GoSem.ClaimSeven
namespace Go.Proofs.YthkegefjmcipmaaDoor
namespace Rows

/-- THE TIED CARD OF 'foolscaplaw30.ViewDraws'. -/
def viewDrawsCard : Claim7 := { stood := { row := viewDrawsRow, standIns := [], harness := (true, "6b9ccb61d362a6cbe2098c3ec8bc862164a5b68981caf7a48cbc6649d2f69f74"), looks := false }, kinds := [], alts := [], laidByText := true, laidKinds := [.data, .data, .data], laidTests := true, laidLooks := .later }
def ViewDrawsCardSaid : Prop := Claim7.holds Tryd.pinned (.plain (OpenSpec.ofChange viewDrawsSpec)) viewDrawsCard

/-- THE TIED CARD OF 'foolscaplaw30.ViewFits'. -/
def viewFitsCard : Claim7 := { stood := { row := viewFitsRow, standIns := [], harness := (true, "6b9ccb61d362a6cbe2098c3ec8bc862164a5b68981caf7a48cbc6649d2f69f74"), looks := false }, kinds := [], alts := [], laidByText := true, laidKinds := [.data, .data, .data], laidTests := true, laidLooks := .later }
def ViewFitsCardSaid : Prop := Claim7.holds Tryd.pinned (.plain (OpenSpec.ofChange viewFitsSpec)) viewFitsCard

/-- THE TIED CARD OF 'foolscaplaw30.ViewEven'. -/
def viewEvenCard : Claim7 := { stood := { row := viewEvenRow, standIns := [], harness := (true, "6b9ccb61d362a6cbe2098c3ec8bc862164a5b68981caf7a48cbc6649d2f69f74"), looks := false }, kinds := [], alts := [], laidByText := true, laidKinds := [.data, .data, .data], laidTests := true, laidLooks := .later }
def ViewEvenCardSaid : Prop := Claim7.holds Tryd.pinned (.plain (OpenSpec.ofChange viewEvenSpec)) viewEvenCard

/-- THE TIED CARD OF 'foolscaplaw30.ViewOrder'. -/
def viewOrderCard : Claim7 := { stood := { row := viewOrderRow, standIns := [], harness := (true, "6b9ccb61d362a6cbe2098c3ec8bc862164a5b68981caf7a48cbc6649d2f69f74"), looks := false }, kinds := [], alts := [], laidByText := true, laidKinds := [.data, .data, .data], laidTests := true, laidLooks := .later }
def ViewOrderCardSaid : Prop := Claim7.holds Tryd.pinned (.plain (OpenSpec.ofChange viewOrderSpec)) viewOrderCard

/-- THE TIED CARD OF 'foolscaplaw30.ViewWide'. -/
def viewWideCard : Claim7 := { stood := { row := viewWideRow, standIns := [], harness := (true, "6b9ccb61d362a6cbe2098c3ec8bc862164a5b68981caf7a48cbc6649d2f69f74"), looks := false }, kinds := [], alts := [], laidByText := true, laidKinds := [.data, .data, .data], laidTests := true, laidLooks := .later }
def ViewWideCardSaid : Prop := Claim7.holds Tryd.pinned (.plain (OpenSpec.ofChange viewWideSpec)) viewWideCard

/-- THE TIED CARD OF 'foolscaplaw30.ViewWidths'. -/
def viewWidthsCard : Claim7 := { stood := { row := viewWidthsRow, standIns := [], harness := (true, "6b9ccb61d362a6cbe2098c3ec8bc862164a5b68981caf7a48cbc6649d2f69f74"), looks := false }, kinds := [], alts := [], laidByText := true, laidKinds := [.data, .data, .data], laidTests := true, laidLooks := .later }
def ViewWidthsCardSaid : Prop := Claim7.holds Tryd.pinned (.plain (OpenSpec.ofChange viewWidthsSpec)) viewWidthsCard

/-- THE SECOND FORM's CARD OF 'foolscaplaw30.ViewDraws'. -/
def viewDrawsUptoCard : Claim7 := { stood := { row := viewDrawsUptoRow, standIns := [], harness := (true, "6b9ccb61d362a6cbe2098c3ec8bc862164a5b68981caf7a48cbc6649d2f69f74"), looks := false }, kinds := [], alts := [], laidByText := true, laidKinds := [.data, .data, .data], laidTests := true, laidLooks := .later }
def ViewDrawsUptoCardSaid : Prop := Claim7.holds Tryd.pinned (.plain (OpenSpec.upto viewDrawsSpec)) viewDrawsUptoCard

/-- THE SECOND FORM's CARD OF 'foolscaplaw30.ViewFits'. -/
def viewFitsUptoCard : Claim7 := { stood := { row := viewFitsUptoRow, standIns := [], harness := (true, "6b9ccb61d362a6cbe2098c3ec8bc862164a5b68981caf7a48cbc6649d2f69f74"), looks := false }, kinds := [], alts := [], laidByText := true, laidKinds := [.data, .data, .data], laidTests := true, laidLooks := .later }
def ViewFitsUptoCardSaid : Prop := Claim7.holds Tryd.pinned (.plain (OpenSpec.upto viewFitsSpec)) viewFitsUptoCard

/-- THE SECOND FORM's CARD OF 'foolscaplaw30.ViewEven'. -/
def viewEvenUptoCard : Claim7 := { stood := { row := viewEvenUptoRow, standIns := [], harness := (true, "6b9ccb61d362a6cbe2098c3ec8bc862164a5b68981caf7a48cbc6649d2f69f74"), looks := false }, kinds := [], alts := [], laidByText := true, laidKinds := [.data, .data, .data], laidTests := true, laidLooks := .later }
def ViewEvenUptoCardSaid : Prop := Claim7.holds Tryd.pinned (.plain (OpenSpec.upto viewEvenSpec)) viewEvenUptoCard

/-- THE SECOND FORM's CARD OF 'foolscaplaw30.ViewOrder'. -/
def viewOrderUptoCard : Claim7 := { stood := { row := viewOrderUptoRow, standIns := [], harness := (true, "6b9ccb61d362a6cbe2098c3ec8bc862164a5b68981caf7a48cbc6649d2f69f74"), looks := false }, kinds := [], alts := [], laidByText := true, laidKinds := [.data, .data, .data], laidTests := true, laidLooks := .later }
def ViewOrderUptoCardSaid : Prop := Claim7.holds Tryd.pinned (.plain (OpenSpec.upto viewOrderSpec)) viewOrderUptoCard

/-- THE SECOND FORM's CARD OF 'foolscaplaw30.ViewWide'. -/
def viewWideUptoCard : Claim7 := { stood := { row := viewWideUptoRow, standIns := [], harness := (true, "6b9ccb61d362a6cbe2098c3ec8bc862164a5b68981caf7a48cbc6649d2f69f74"), looks := false }, kinds := [], alts := [], laidByText := true, laidKinds := [.data, .data, .data], laidTests := true, laidLooks := .later }
def ViewWideUptoCardSaid : Prop := Claim7.holds Tryd.pinned (.plain (OpenSpec.upto viewWideSpec)) viewWideUptoCard

/-- THE SECOND FORM's CARD OF 'foolscaplaw30.ViewWidths'. -/
def viewWidthsUptoCard : Claim7 := { stood := { row := viewWidthsUptoRow, standIns := [], harness := (true, "6b9ccb61d362a6cbe2098c3ec8bc862164a5b68981caf7a48cbc6649d2f69f74"), looks := false }, kinds := [], alts := [], laidByText := true, laidKinds := [.data, .data, .data], laidTests := true, laidLooks := .later }
def ViewWidthsUptoCardSaid : Prop := Claim7.holds Tryd.pinned (.plain (OpenSpec.upto viewWidthsSpec)) viewWidthsUptoCard
end Rows
end Go.Proofs.YthkegefjmcipmaaDoor
