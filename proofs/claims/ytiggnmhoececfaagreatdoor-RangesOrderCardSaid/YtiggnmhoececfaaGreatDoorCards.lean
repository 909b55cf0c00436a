/-
  DERIVED. GIVEN WITH THE SEED: THE CARDS: each row of YtiggnmhoececfaaGreatDoorRows.lean that lists a variable, with what it lists TIED to the program's text (the seventh form; the later family's looks); each row that meets fmt, with fmt's text TOLD by the authors' own Lean function (tested against real Go, not proved from fmt's source: count such statements apart). THE CARD IS WHAT COUNTS. Prove the row's statement (the work); the ties are given (YtiggnmhoececfaaGreatDoorTie.lean); close each card by the builder's one call (the guide's Derived/Test/ToyasCard.lean, 'card_holds'). Laid BY PROGRAM, IN A SANDBOX (cutbox-door.mjs). By AI agents, Wed Nov 11 2026. No macro, syntax, notation, axiom, sorry.
-/
import Derived.Test.YtiggnmhoececfaaGreatDoorRows
import GoSem.ClaimSeven
namespace Go.Proofs.YtiggnmhoececfaaGreatDoor
namespace Rows

/-- THE TIED CARD OF 'cashierlaw18.RangesCheck'. -/
def rangesCheckCard : Claim7 := { stood := { row := rangesCheckRow, standIns := [], harness := (true, "090e4969e62e1b327834a1d410a069971950c4d531d7af7b6ec36f5d1881642d"), looks := true }, kinds := [], alts := [], laidByText := true, laidKinds := [.data, .data, .data, .data, .sentinel, .sentinel, .pinned], laidTests := true, laidLooks := .later }
def RangesCheckCardSaid : Prop := Claim7.holds Tryz.pinned (.plain (OpenSpec.ofChange rangesCheckSpec)) rangesCheckCard

/-- THE TIED CARD OF 'cashierlaw18.RangesNeighbours'. -/
def rangesNeighboursCard : Claim7 := { stood := { row := rangesNeighboursRow, standIns := [], harness := (true, "090e4969e62e1b327834a1d410a069971950c4d531d7af7b6ec36f5d1881642d"), looks := true }, kinds := [], alts := [], laidByText := true, laidKinds := [.data, .data, .data, .data, .sentinel, .sentinel, .pinned], laidTests := true, laidLooks := .later }
def RangesNeighboursCardSaid : Prop := Claim7.holds Tryz.pinned (.plain (OpenSpec.ofChange rangesNeighboursSpec)) rangesNeighboursCard

/-- THE TIED CARD OF 'cashierlaw18.RangesTurn'. -/
def rangesTurnCard : Claim7 := { stood := { row := rangesTurnRow, standIns := [], harness := (true, "090e4969e62e1b327834a1d410a069971950c4d531d7af7b6ec36f5d1881642d"), looks := true }, kinds := [], alts := [], laidByText := true, laidKinds := [.data, .data, .data, .data, .sentinel, .sentinel, .pinned], laidTests := true, laidLooks := .later }
def RangesTurnCardSaid : Prop := Claim7.holds Tryz.pinned (.plain (OpenSpec.ofChange rangesTurnSpec)) rangesTurnCard

/-- THE TIED CARD OF 'cashierlaw18.RangesOrder'. -/
def rangesOrderCard : Claim7 := { stood := { row := rangesOrderRow, standIns := [], harness := (true, "090e4969e62e1b327834a1d410a069971950c4d531d7af7b6ec36f5d1881642d"), looks := true }, kinds := [], alts := [], laidByText := true, laidKinds := [.data, .data, .data, .data, .sentinel, .sentinel, .pinned], laidTests := true, laidLooks := .later }
def RangesOrderCardSaid : Prop := Claim7.holds Tryz.pinned (.plain (OpenSpec.ofChange rangesOrderSpec)) rangesOrderCard

/-- THE SECOND FORM's CARD OF 'cashierlaw18.RangesCheck'. -/
def rangesCheckUptoCard : Claim7 := { stood := { row := rangesCheckUptoRow, standIns := [], harness := (true, "090e4969e62e1b327834a1d410a069971950c4d531d7af7b6ec36f5d1881642d"), looks := true }, kinds := [], alts := [], laidByText := true, laidKinds := [.data, .data, .data, .data, .sentinel, .sentinel, .pinned], laidTests := true, laidLooks := .later }
def RangesCheckUptoCardSaid : Prop := Claim7.holds Tryz.pinned (.plain (OpenSpec.upto rangesCheckSpec)) rangesCheckUptoCard

/-- THE SECOND FORM's CARD OF 'cashierlaw18.RangesNeighbours'. -/
def rangesNeighboursUptoCard : Claim7 := { stood := { row := rangesNeighboursUptoRow, standIns := [], harness := (true, "090e4969e62e1b327834a1d410a069971950c4d531d7af7b6ec36f5d1881642d"), looks := true }, kinds := [], alts := [], laidByText := true, laidKinds := [.data, .data, .data, .data, .sentinel, .sentinel, .pinned], laidTests := true, laidLooks := .later }
def RangesNeighboursUptoCardSaid : Prop := Claim7.holds Tryz.pinned (.plain (OpenSpec.upto rangesNeighboursSpec)) rangesNeighboursUptoCard

/-- THE SECOND FORM's CARD OF 'cashierlaw18.RangesTurn'. -/
def rangesTurnUptoCard : Claim7 := { stood := { row := rangesTurnUptoRow, standIns := [], harness := (true, "090e4969e62e1b327834a1d410a069971950c4d531d7af7b6ec36f5d1881642d"), looks := true }, kinds := [], alts := [], laidByText := true, laidKinds := [.data, .data, .data, .data, .sentinel, .sentinel, .pinned], laidTests := true, laidLooks := .later }
def RangesTurnUptoCardSaid : Prop := Claim7.holds Tryz.pinned (.plain (OpenSpec.upto rangesTurnSpec)) rangesTurnUptoCard

/-- THE SECOND FORM's CARD OF 'cashierlaw18.RangesOrder'. -/
def rangesOrderUptoCard : Claim7 := { stood := { row := rangesOrderUptoRow, standIns := [], harness := (true, "090e4969e62e1b327834a1d410a069971950c4d531d7af7b6ec36f5d1881642d"), looks := true }, kinds := [], alts := [], laidByText := true, laidKinds := [.data, .data, .data, .data, .sentinel, .sentinel, .pinned], laidTests := true, laidLooks := .later }
def RangesOrderUptoCardSaid : Prop := Claim7.holds Tryz.pinned (.plain (OpenSpec.upto rangesOrderSpec)) rangesOrderUptoCard
end Rows
end Go.Proofs.YtiggnmhoececfaaGreatDoor
