/-
  DERIVED. GIVEN WITH THE SEED: THE CARDS: each row of YtilejaehbgljbaaDoorRows.lean that lists a variable, with what it lists TIED to the program's text (the seventh form; the later family's looks); each row that meets fmt, with fmt's text TOLD by the authors' own Lean function (tested against real Go, not proved from fmt's source: count such statements apart). THE CARD IS WHAT COUNTS. Prove the row's statement (the work); the ties are given (YtilejaehbgljbaaDoorTie.lean); close each card by the builder's one call (the guide's Derived/Test/ToyasCard.lean, 'card_holds'). Laid BY PROGRAM, IN A SANDBOX (cutbox-door.mjs). By AI agents, Wed Nov 11 2026. No macro, syntax, notation, axiom, sorry.
-/
import Derived.Test.YtilejaehbgljbaaDoorRows
import GoSem.ClaimSeven
namespace Go.Proofs.YtilejaehbgljbaaDoor
namespace Rows

/-- THE TIED CARD OF 'foolscaplaw05.PlaceLetters'. -/
def placeLettersCard : Claim7 := { stood := { row := placeLettersRow, standIns := [], harness := (true, "e9fe643ec92d66a278d879be8838c10343820be9fe822806fd6f618560c1e641"), looks := true }, kinds := [], alts := [], laidByText := true, laidKinds := [.data, .data, .data, .sentinel, .sentinel], laidTests := true, laidLooks := .later }
def PlaceLettersCardSaid : Prop := Claim7.holds Tryd.pinned (.plain (OpenSpec.ofChange placeLettersSpec)) placeLettersCard

/-- THE TIED CARD OF 'foolscaplaw05.PlaceCells'. -/
def placeCellsCard : Claim7 := { stood := { row := placeCellsRow, standIns := [], harness := (true, "e9fe643ec92d66a278d879be8838c10343820be9fe822806fd6f618560c1e641"), looks := true }, kinds := [], alts := [], laidByText := true, laidKinds := [.data, .data, .data, .sentinel, .sentinel], laidTests := true, laidLooks := .later }
def PlaceCellsCardSaid : Prop := Claim7.holds Tryd.pinned (.plain (OpenSpec.ofChange placeCellsSpec)) placeCellsCard

/-- THE TIED CARD OF 'foolscaplaw05.PlaceBack'. -/
def placeBackCard : Claim7 := { stood := { row := placeBackRow, standIns := [], harness := (true, "e9fe643ec92d66a278d879be8838c10343820be9fe822806fd6f618560c1e641"), looks := true }, kinds := [], alts := [], laidByText := true, laidKinds := [.data, .data, .data, .sentinel, .sentinel], laidTests := true, laidLooks := .later }
def PlaceBackCardSaid : Prop := Claim7.holds Tryd.pinned (.plain (OpenSpec.ofChange placeBackSpec)) placeBackCard

/-- THE TIED CARD OF 'foolscaplaw05.PlaceRow'. -/
def placeRowCard : Claim7 := { stood := { row := placeRowRow, standIns := [], harness := (true, "e9fe643ec92d66a278d879be8838c10343820be9fe822806fd6f618560c1e641"), looks := true }, kinds := [], alts := [], laidByText := true, laidKinds := [.data, .data, .data, .sentinel, .sentinel], laidTests := true, laidLooks := .later }
def PlaceRowCardSaid : Prop := Claim7.holds Tryd.pinned (.plain (OpenSpec.ofChange placeRowSpec)) placeRowCard

/-- THE TIED CARD OF 'foolscaplaw05.PlaceLeast'. -/
def placeLeastCard : Claim7 := { stood := { row := placeLeastRow, standIns := [], harness := (true, "e9fe643ec92d66a278d879be8838c10343820be9fe822806fd6f618560c1e641"), looks := true }, kinds := [], alts := [], laidByText := true, laidKinds := [.data, .data, .data, .sentinel, .sentinel], laidTests := true, laidLooks := .later }
def PlaceLeastCardSaid : Prop := Claim7.holds Tryd.pinned (.plain (OpenSpec.ofChange placeLeastSpec)) placeLeastCard

/-- THE TIED CARD OF 'foolscaplaw05.PlaceMeets'. -/
def placeMeetsCard : Claim7 := { stood := { row := placeMeetsRow, standIns := [], harness := (true, "e9fe643ec92d66a278d879be8838c10343820be9fe822806fd6f618560c1e641"), looks := true }, kinds := [], alts := [], laidByText := true, laidKinds := [.data, .data, .data, .sentinel, .sentinel], laidTests := true, laidLooks := .later }
def PlaceMeetsCardSaid : Prop := Claim7.holds Tryd.pinned (.plain (OpenSpec.ofChange placeMeetsSpec)) placeMeetsCard

/-- THE TIED CARD OF 'foolscaplaw05.PlaceRects'. -/
def placeRectsCard : Claim7 := { stood := { row := placeRectsRow, standIns := [], harness := (true, "e9fe643ec92d66a278d879be8838c10343820be9fe822806fd6f618560c1e641"), looks := true }, kinds := [], alts := [], laidByText := true, laidKinds := [.data, .data, .data, .sentinel, .sentinel], laidTests := true, laidLooks := .later }
def PlaceRectsCardSaid : Prop := Claim7.holds Tryd.pinned (.plain (OpenSpec.ofChange placeRectsSpec)) placeRectsCard

/-- THE SECOND FORM's CARD OF 'foolscaplaw05.PlaceLetters'. -/
def placeLettersUptoCard : Claim7 := { stood := { row := placeLettersUptoRow, standIns := [], harness := (true, "e9fe643ec92d66a278d879be8838c10343820be9fe822806fd6f618560c1e641"), looks := true }, kinds := [], alts := [], laidByText := true, laidKinds := [.data, .data, .data, .sentinel, .sentinel], laidTests := true, laidLooks := .later }
def PlaceLettersUptoCardSaid : Prop := Claim7.holds Tryd.pinned (.plain (OpenSpec.upto placeLettersSpec)) placeLettersUptoCard

/-- THE SECOND FORM's CARD OF 'foolscaplaw05.PlaceCells'. -/
def placeCellsUptoCard : Claim7 := { stood := { row := placeCellsUptoRow, standIns := [], harness := (true, "e9fe643ec92d66a278d879be8838c10343820be9fe822806fd6f618560c1e641"), looks := true }, kinds := [], alts := [], laidByText := true, laidKinds := [.data, .data, .data, .sentinel, .sentinel], laidTests := true, laidLooks := .later }
def PlaceCellsUptoCardSaid : Prop := Claim7.holds Tryd.pinned (.plain (OpenSpec.upto placeCellsSpec)) placeCellsUptoCard

/-- THE SECOND FORM's CARD OF 'foolscaplaw05.PlaceBack'. -/
def placeBackUptoCard : Claim7 := { stood := { row := placeBackUptoRow, standIns := [], harness := (true, "e9fe643ec92d66a278d879be8838c10343820be9fe822806fd6f618560c1e641"), looks := true }, kinds := [], alts := [], laidByText := true, laidKinds := [.data, .data, .data, .sentinel, .sentinel], laidTests := true, laidLooks := .later }
def PlaceBackUptoCardSaid : Prop := Claim7.holds Tryd.pinned (.plain (OpenSpec.upto placeBackSpec)) placeBackUptoCard

/-- THE SECOND FORM's CARD OF 'foolscaplaw05.PlaceRow'. -/
def placeRowUptoCard : Claim7 := { stood := { row := placeRowUptoRow, standIns := [], harness := (true, "e9fe643ec92d66a278d879be8838c10343820be9fe822806fd6f618560c1e641"), looks := true }, kinds := [], alts := [], laidByText := true, laidKinds := [.data, .data, .data, .sentinel, .sentinel], laidTests := true, laidLooks := .later }
def PlaceRowUptoCardSaid : Prop := Claim7.holds Tryd.pinned (.plain (OpenSpec.upto placeRowSpec)) placeRowUptoCard

/-- THE SECOND FORM's CARD OF 'foolscaplaw05.PlaceLeast'. -/
def placeLeastUptoCard : Claim7 := { stood := { row := placeLeastUptoRow, standIns := [], harness := (true, "e9fe643ec92d66a278d879be8838c10343820be9fe822806fd6f618560c1e641"), looks := true }, kinds := [], alts := [], laidByText := true, laidKinds := [.data, .data, .data, .sentinel, .sentinel], laidTests := true, laidLooks := .later }
def PlaceLeastUptoCardSaid : Prop := Claim7.holds Tryd.pinned (.plain (OpenSpec.upto placeLeastSpec)) placeLeastUptoCard

/-- THE SECOND FORM's CARD OF 'foolscaplaw05.PlaceMeets'. -/
def placeMeetsUptoCard : Claim7 := { stood := { row := placeMeetsUptoRow, standIns := [], harness := (true, "e9fe643ec92d66a278d879be8838c10343820be9fe822806fd6f618560c1e641"), looks := true }, kinds := [], alts := [], laidByText := true, laidKinds := [.data, .data, .data, .sentinel, .sentinel], laidTests := true, laidLooks := .later }
def PlaceMeetsUptoCardSaid : Prop := Claim7.holds Tryd.pinned (.plain (OpenSpec.upto placeMeetsSpec)) placeMeetsUptoCard

/-- THE SECOND FORM's CARD OF 'foolscaplaw05.PlaceRects'. -/
def placeRectsUptoCard : Claim7 := { stood := { row := placeRectsUptoRow, standIns := [], harness := (true, "e9fe643ec92d66a278d879be8838c10343820be9fe822806fd6f618560c1e641"), looks := true }, kinds := [], alts := [], laidByText := true, laidKinds := [.data, .data, .data, .sentinel, .sentinel], laidTests := true, laidLooks := .later }
def PlaceRectsUptoCardSaid : Prop := Claim7.holds Tryd.pinned (.plain (OpenSpec.upto placeRectsSpec)) placeRectsUptoCard
end Rows
end Go.Proofs.YtilejaehbgljbaaDoor
