/-
  DERIVED. GIVEN WITH THE SEED: THE CARDS: each row of YtdokphikobfakaaDoorRows.lean that lists a variable, with what it lists TIED to the program's text (the seventh form; the later family's looks); each row that meets fmt, with fmt's text TOLD by the authors' own Lean function (tested against real Go, not proved from fmt's source: count such statements apart). THE CARD IS WHAT COUNTS. Prove the row's statement (the work); the ties are given (YtdokphikobfakaaDoorTie.lean); close each card by the builder's one call (the guide's Derived/Test/ToyasCard.lean, 'card_holds'). Laid BY PROGRAM, IN A SANDBOX (cutbox-door.mjs). By AI agents, Wed Nov 11 2026. No macro, syntax, notation, axiom, sorry.
-/
import Derived.Test.YtdokphikobfakaaDoorRows
import GoSem.ClaimSeven
namespace Go.Proofs.YtdokphikobfakaaDoor
namespace Rows

/-- THE TIED CARD OF 'foolscaplaw29.CsvWrites'. -/
def csvWritesCard : Claim7 := { stood := { row := csvWritesRow, standIns := [], harness := (true, "d27d38f60e93a239a2f8e9e9d5e8c98b99f3de90c1b513be4bec931c60d5660a"), looks := false }, kinds := [], alts := [], laidByText := true, laidKinds := [.data, .pinned], laidTests := true, laidLooks := .later }
def CsvWritesCardSaid : Prop := Claim7.holds Tryd.pinned (.plain (OpenSpec.ofChange csvWritesSpec)) csvWritesCard

/-- THE TIED CARD OF 'foolscaplaw29.CsvBack'. -/
def csvBackCard : Claim7 := { stood := { row := csvBackRow, standIns := [], harness := (true, "d27d38f60e93a239a2f8e9e9d5e8c98b99f3de90c1b513be4bec931c60d5660a"), looks := false }, kinds := [], alts := [], laidByText := true, laidKinds := [.data, .pinned], laidTests := true, laidLooks := .later }
def CsvBackCardSaid : Prop := Claim7.holds Tryd.pinned (.plain (OpenSpec.ofChange csvBackSpec)) csvBackCard

/-- THE TIED CARD OF 'foolscaplaw29.CsvAgain'. -/
def csvAgainCard : Claim7 := { stood := { row := csvAgainRow, standIns := [], harness := (true, "d27d38f60e93a239a2f8e9e9d5e8c98b99f3de90c1b513be4bec931c60d5660a"), looks := false }, kinds := [], alts := [], laidByText := true, laidKinds := [.data, .pinned], laidTests := true, laidLooks := .later }
def CsvAgainCardSaid : Prop := Claim7.holds Tryd.pinned (.plain (OpenSpec.ofChange csvAgainSpec)) csvAgainCard

/-- THE TIED CARD OF 'foolscaplaw29.CsvEnds'. -/
def csvEndsCard : Claim7 := { stood := { row := csvEndsRow, standIns := [], harness := (true, "d27d38f60e93a239a2f8e9e9d5e8c98b99f3de90c1b513be4bec931c60d5660a"), looks := false }, kinds := [], alts := [], laidByText := true, laidKinds := [.data, .pinned], laidTests := true, laidLooks := .later }
def CsvEndsCardSaid : Prop := Claim7.holds Tryd.pinned (.plain (OpenSpec.ofChange csvEndsSpec)) csvEndsCard

/-- THE TIED CARD OF 'foolscaplaw29.CsvRefuses'. -/
def csvRefusesCard : Claim7 := { stood := { row := csvRefusesRow, standIns := [], harness := (true, "d27d38f60e93a239a2f8e9e9d5e8c98b99f3de90c1b513be4bec931c60d5660a"), looks := false }, kinds := [], alts := [], laidByText := true, laidKinds := [.data, .pinned], laidTests := true, laidLooks := .later }
def CsvRefusesCardSaid : Prop := Claim7.holds Tryd.pinned (.plain (OpenSpec.ofChange csvRefusesSpec)) csvRefusesCard

/-- THE SECOND FORM's CARD OF 'foolscaplaw29.CsvWrites'. -/
def csvWritesUptoCard : Claim7 := { stood := { row := csvWritesUptoRow, standIns := [], harness := (true, "d27d38f60e93a239a2f8e9e9d5e8c98b99f3de90c1b513be4bec931c60d5660a"), looks := false }, kinds := [], alts := [], laidByText := true, laidKinds := [.data, .pinned], laidTests := true, laidLooks := .later }
def CsvWritesUptoCardSaid : Prop := Claim7.holds Tryd.pinned (.plain (OpenSpec.upto csvWritesSpec)) csvWritesUptoCard

/-- THE SECOND FORM's CARD OF 'foolscaplaw29.CsvBack'. -/
def csvBackUptoCard : Claim7 := { stood := { row := csvBackUptoRow, standIns := [], harness := (true, "d27d38f60e93a239a2f8e9e9d5e8c98b99f3de90c1b513be4bec931c60d5660a"), looks := false }, kinds := [], alts := [], laidByText := true, laidKinds := [.data, .pinned], laidTests := true, laidLooks := .later }
def CsvBackUptoCardSaid : Prop := Claim7.holds Tryd.pinned (.plain (OpenSpec.upto csvBackSpec)) csvBackUptoCard

/-- THE SECOND FORM's CARD OF 'foolscaplaw29.CsvAgain'. -/
def csvAgainUptoCard : Claim7 := { stood := { row := csvAgainUptoRow, standIns := [], harness := (true, "d27d38f60e93a239a2f8e9e9d5e8c98b99f3de90c1b513be4bec931c60d5660a"), looks := false }, kinds := [], alts := [], laidByText := true, laidKinds := [.data, .pinned], laidTests := true, laidLooks := .later }
def CsvAgainUptoCardSaid : Prop := Claim7.holds Tryd.pinned (.plain (OpenSpec.upto csvAgainSpec)) csvAgainUptoCard

/-- THE SECOND FORM's CARD OF 'foolscaplaw29.CsvEnds'. -/
def csvEndsUptoCard : Claim7 := { stood := { row := csvEndsUptoRow, standIns := [], harness := (true, "d27d38f60e93a239a2f8e9e9d5e8c98b99f3de90c1b513be4bec931c60d5660a"), looks := false }, kinds := [], alts := [], laidByText := true, laidKinds := [.data, .pinned], laidTests := true, laidLooks := .later }
def CsvEndsUptoCardSaid : Prop := Claim7.holds Tryd.pinned (.plain (OpenSpec.upto csvEndsSpec)) csvEndsUptoCard

/-- THE SECOND FORM's CARD OF 'foolscaplaw29.CsvRefuses'. -/
def csvRefusesUptoCard : Claim7 := { stood := { row := csvRefusesUptoRow, standIns := [], harness := (true, "d27d38f60e93a239a2f8e9e9d5e8c98b99f3de90c1b513be4bec931c60d5660a"), looks := false }, kinds := [], alts := [], laidByText := true, laidKinds := [.data, .pinned], laidTests := true, laidLooks := .later }
def CsvRefusesUptoCardSaid : Prop := Claim7.holds Tryd.pinned (.plain (OpenSpec.upto csvRefusesSpec)) csvRefusesUptoCard
end Rows
end Go.Proofs.YtdokphikobfakaaDoor
