/-
  DERIVED. GIVEN WITH THE SEED: THE CARDS: each row of YtfocognhcljhpaaGreatDoorRows.lean that lists a variable, with what it lists TIED to the program's text (the seventh form; the later family's looks); each row that meets fmt, with fmt's text TOLD by the authors' own Lean function (tested against real Go, not proved from fmt's source: count such statements apart). THE CARD IS WHAT COUNTS. Prove the row's statement (the work); the ties are given (YtfocognhcljhpaaGreatDoorTie.lean); close each card by the builder's one call (the guide's Derived/Test/ToyasCard.lean, 'card_holds'). Laid BY PROGRAM, IN A SANDBOX (cutbox-door.mjs). By AI agents, Wed Nov 11 2026. No macro, syntax, notation, axiom, sorry.
-/
import Derived.Test.YtfocognhcljhpaaGreatDoorRows
import GoSem.ClaimSeven
namespace Go.Proofs.YtfocognhcljhpaaGreatDoor
namespace Rows

/-- THE TIED CARD OF 'cashierlaw08.PrintRows'. -/
def printRowsCard : Claim7 := { stood := { row := printRowsRow, standIns := [], harness := (true, "4bb6ebad532f24f7f7f4f4b6ce82a0334d1c18bbee7b702924ac3f4aa71c2020"), looks := false }, kinds := [], alts := [], laidByText := true, laidKinds := [.data, .pinned, .pinned], laidTests := true, laidLooks := .later }
def PrintRowsCardSaid : Prop := Claim7.holds Tryz.pinned (.plain (OpenSpec.ofChange printRowsSpec)) printRowsCard

/-- THE TIED CARD OF 'cashierlaw08.PrintCanon'. -/
def printCanonCard : Claim7 := { stood := { row := printCanonRow, standIns := [], harness := (true, "4bb6ebad532f24f7f7f4f4b6ce82a0334d1c18bbee7b702924ac3f4aa71c2020"), looks := false }, kinds := [], alts := [], laidByText := true, laidKinds := [.data, .pinned, .pinned], laidTests := true, laidLooks := .later }
def PrintCanonCardSaid : Prop := Claim7.holds Tryz.pinned (.plain (OpenSpec.ofChange printCanonSpec)) printCanonCard

/-- THE TIED CARD OF 'cashierlaw08.PrintBack'. -/
def printBackCard : Claim7 := { stood := { row := printBackRow, standIns := [], harness := (true, "4bb6ebad532f24f7f7f4f4b6ce82a0334d1c18bbee7b702924ac3f4aa71c2020"), looks := false }, kinds := [], alts := [], laidByText := true, laidKinds := [.data, .pinned, .pinned], laidTests := true, laidLooks := .later }
def PrintBackCardSaid : Prop := Claim7.holds Tryz.pinned (.plain (OpenSpec.ofChange printBackSpec)) printBackCard

/-- THE TIED CARD OF 'cashierlaw08.PrintQuotes'. -/
def printQuotesCard : Claim7 := { stood := { row := printQuotesRow, standIns := [], harness := (true, "4bb6ebad532f24f7f7f4f4b6ce82a0334d1c18bbee7b702924ac3f4aa71c2020"), looks := false }, kinds := [], alts := [], laidByText := true, laidKinds := [.data, .pinned, .pinned], laidTests := true, laidLooks := .later }
def PrintQuotesCardSaid : Prop := Claim7.holds Tryz.pinned (.plain (OpenSpec.ofChange printQuotesSpec)) printQuotesCard

/-- THE TIED CARD OF 'cashierlaw09.NodeLays'. -/
def nodeLaysCard : Claim7 := { stood := { row := nodeLaysRow, standIns := [], harness := (true, "4bb6ebad532f24f7f7f4f4b6ce82a0334d1c18bbee7b702924ac3f4aa71c2020"), looks := false }, kinds := [], alts := [], laidByText := true, laidKinds := [.data, .pinned, .pinned], laidTests := true, laidLooks := .later }
def NodeLaysCardSaid : Prop := Claim7.holds Tryz.pinned (.plain (OpenSpec.ofChange nodeLaysSpec)) nodeLaysCard

/-- THE TIED CARD OF 'cashierlaw09.NodeBack'. -/
def nodeBackCard : Claim7 := { stood := { row := nodeBackRow, standIns := [], harness := (true, "4bb6ebad532f24f7f7f4f4b6ce82a0334d1c18bbee7b702924ac3f4aa71c2020"), looks := false }, kinds := [], alts := [], laidByText := true, laidKinds := [.data, .pinned, .pinned], laidTests := true, laidLooks := .later }
def NodeBackCardSaid : Prop := Claim7.holds Tryz.pinned (.plain (OpenSpec.ofChange nodeBackSpec)) nodeBackCard

/-- THE TIED CARD OF 'cashierlaw09.NodeSteps'. -/
def nodeStepsCard : Claim7 := { stood := { row := nodeStepsRow, standIns := [], harness := (true, "4bb6ebad532f24f7f7f4f4b6ce82a0334d1c18bbee7b702924ac3f4aa71c2020"), looks := false }, kinds := [], alts := [], laidByText := true, laidKinds := [.data, .pinned, .pinned], laidTests := true, laidLooks := .later }
def NodeStepsCardSaid : Prop := Claim7.holds Tryz.pinned (.plain (OpenSpec.ofChange nodeStepsSpec)) nodeStepsCard

/-- THE TIED CARD OF 'cashierlaw09.NodeGoes'. -/
def nodeGoesCard : Claim7 := { stood := { row := nodeGoesRow, standIns := [], harness := (true, "4bb6ebad532f24f7f7f4f4b6ce82a0334d1c18bbee7b702924ac3f4aa71c2020"), looks := false }, kinds := [], alts := [], laidByText := true, laidKinds := [.data, .pinned, .pinned], laidTests := true, laidLooks := .later }
def NodeGoesCardSaid : Prop := Claim7.holds Tryz.pinned (.plain (OpenSpec.ofChange nodeGoesSpec)) nodeGoesCard

/-- THE SECOND FORM's CARD OF 'cashierlaw08.PrintRows'. -/
def printRowsUptoCard : Claim7 := { stood := { row := printRowsUptoRow, standIns := [], harness := (true, "4bb6ebad532f24f7f7f4f4b6ce82a0334d1c18bbee7b702924ac3f4aa71c2020"), looks := false }, kinds := [], alts := [], laidByText := true, laidKinds := [.data, .pinned, .pinned], laidTests := true, laidLooks := .later }
def PrintRowsUptoCardSaid : Prop := Claim7.holds Tryz.pinned (.plain (OpenSpec.upto printRowsSpec)) printRowsUptoCard

/-- THE SECOND FORM's CARD OF 'cashierlaw08.PrintCanon'. -/
def printCanonUptoCard : Claim7 := { stood := { row := printCanonUptoRow, standIns := [], harness := (true, "4bb6ebad532f24f7f7f4f4b6ce82a0334d1c18bbee7b702924ac3f4aa71c2020"), looks := false }, kinds := [], alts := [], laidByText := true, laidKinds := [.data, .pinned, .pinned], laidTests := true, laidLooks := .later }
def PrintCanonUptoCardSaid : Prop := Claim7.holds Tryz.pinned (.plain (OpenSpec.upto printCanonSpec)) printCanonUptoCard

/-- THE SECOND FORM's CARD OF 'cashierlaw08.PrintBack'. -/
def printBackUptoCard : Claim7 := { stood := { row := printBackUptoRow, standIns := [], harness := (true, "4bb6ebad532f24f7f7f4f4b6ce82a0334d1c18bbee7b702924ac3f4aa71c2020"), looks := false }, kinds := [], alts := [], laidByText := true, laidKinds := [.data, .pinned, .pinned], laidTests := true, laidLooks := .later }
def PrintBackUptoCardSaid : Prop := Claim7.holds Tryz.pinned (.plain (OpenSpec.upto printBackSpec)) printBackUptoCard

/-- THE SECOND FORM's CARD OF 'cashierlaw08.PrintQuotes'. -/
def printQuotesUptoCard : Claim7 := { stood := { row := printQuotesUptoRow, standIns := [], harness := (true, "4bb6ebad532f24f7f7f4f4b6ce82a0334d1c18bbee7b702924ac3f4aa71c2020"), looks := false }, kinds := [], alts := [], laidByText := true, laidKinds := [.data, .pinned, .pinned], laidTests := true, laidLooks := .later }
def PrintQuotesUptoCardSaid : Prop := Claim7.holds Tryz.pinned (.plain (OpenSpec.upto printQuotesSpec)) printQuotesUptoCard

/-- THE SECOND FORM's CARD OF 'cashierlaw09.NodeLays'. -/
def nodeLaysUptoCard : Claim7 := { stood := { row := nodeLaysUptoRow, standIns := [], harness := (true, "4bb6ebad532f24f7f7f4f4b6ce82a0334d1c18bbee7b702924ac3f4aa71c2020"), looks := false }, kinds := [], alts := [], laidByText := true, laidKinds := [.data, .pinned, .pinned], laidTests := true, laidLooks := .later }
def NodeLaysUptoCardSaid : Prop := Claim7.holds Tryz.pinned (.plain (OpenSpec.upto nodeLaysSpec)) nodeLaysUptoCard

/-- THE SECOND FORM's CARD OF 'cashierlaw09.NodeBack'. -/
def nodeBackUptoCard : Claim7 := { stood := { row := nodeBackUptoRow, standIns := [], harness := (true, "4bb6ebad532f24f7f7f4f4b6ce82a0334d1c18bbee7b702924ac3f4aa71c2020"), looks := false }, kinds := [], alts := [], laidByText := true, laidKinds := [.data, .pinned, .pinned], laidTests := true, laidLooks := .later }
def NodeBackUptoCardSaid : Prop := Claim7.holds Tryz.pinned (.plain (OpenSpec.upto nodeBackSpec)) nodeBackUptoCard

/-- THE SECOND FORM's CARD OF 'cashierlaw09.NodeSteps'. -/
def nodeStepsUptoCard : Claim7 := { stood := { row := nodeStepsUptoRow, standIns := [], harness := (true, "4bb6ebad532f24f7f7f4f4b6ce82a0334d1c18bbee7b702924ac3f4aa71c2020"), looks := false }, kinds := [], alts := [], laidByText := true, laidKinds := [.data, .pinned, .pinned], laidTests := true, laidLooks := .later }
def NodeStepsUptoCardSaid : Prop := Claim7.holds Tryz.pinned (.plain (OpenSpec.upto nodeStepsSpec)) nodeStepsUptoCard

/-- THE SECOND FORM's CARD OF 'cashierlaw09.NodeGoes'. -/
def nodeGoesUptoCard : Claim7 := { stood := { row := nodeGoesUptoRow, standIns := [], harness := (true, "4bb6ebad532f24f7f7f4f4b6ce82a0334d1c18bbee7b702924ac3f4aa71c2020"), looks := false }, kinds := [], alts := [], laidByText := true, laidKinds := [.data, .pinned, .pinned], laidTests := true, laidLooks := .later }
def NodeGoesUptoCardSaid : Prop := Claim7.holds Tryz.pinned (.plain (OpenSpec.upto nodeGoesSpec)) nodeGoesUptoCard
end Rows
end Go.Proofs.YtfocognhcljhpaaGreatDoor
