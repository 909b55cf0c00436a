/-
  DERIVED. GIVEN WITH THE SEED: THE CARDS: each row of YtiggnmhoececfaaDoorRows.lean that lists a variable, with what it lists TIED to the program's text (the seventh form; the later family's looks); each row that meets fmt, with fmt's text TOLD by the authors' own Lean function (tested against real Go, not proved from fmt's source: count such statements apart). THE CARD IS WHAT COUNTS. Prove the row's statement (the work); the ties are given (YtiggnmhoececfaaDoorTie.lean); close each card by the builder's one call (the guide's Derived/Test/ToyasCard.lean, 'card_holds'). Laid BY PROGRAM, IN A SANDBOX (cutbox-door.mjs). By AI agents, Wed Nov 11 2026. No macro, syntax, notation, axiom, sorry.
-/
import Derived.Test.YtiggnmhoececfaaDoorRows
import GoSem.ClaimSeven
namespace Go.Proofs.YtiggnmhoececfaaDoor
namespace Rows

/-- THE TIED CARD OF 'cashierlaw17.VersionParses'. -/
def versionParsesCard : Claim7 := { stood := { row := versionParsesRow, standIns := [], harness := (true, "1eff100541af114cb5fc1bab4e604cc64f1cf28b91c2c66b2324785b22da1a7a"), looks := true }, kinds := [], alts := [], laidByText := true, laidKinds := [.data, .data, .data, .data, .sentinel, .sentinel, .pinned], laidTests := true, laidLooks := .later }
def VersionParsesCardSaid : Prop := Claim7.holds Tryd.pinned (.plain (OpenSpec.ofChange versionParsesSpec)) versionParsesCard

/-- THE TIED CARD OF 'cashierlaw17.VersionAgrees'. -/
def versionAgreesCard : Claim7 := { stood := { row := versionAgreesRow, standIns := [], harness := (true, "1eff100541af114cb5fc1bab4e604cc64f1cf28b91c2c66b2324785b22da1a7a"), looks := true }, kinds := [], alts := [], laidByText := true, laidKinds := [.data, .data, .data, .data, .sentinel, .sentinel, .pinned], laidTests := true, laidLooks := .later }
def VersionAgreesCardSaid : Prop := Claim7.holds Tryd.pinned (.plain (OpenSpec.ofChange versionAgreesSpec)) versionAgreesCard

/-- THE TIED CARD OF 'cashierlaw17.VersionOrder'. -/
def versionOrderCard : Claim7 := { stood := { row := versionOrderRow, standIns := [], harness := (true, "1eff100541af114cb5fc1bab4e604cc64f1cf28b91c2c66b2324785b22da1a7a"), looks := true }, kinds := [], alts := [], laidByText := true, laidKinds := [.data, .data, .data, .data, .sentinel, .sentinel, .pinned], laidTests := true, laidLooks := .later }
def VersionOrderCardSaid : Prop := Claim7.holds Tryd.pinned (.plain (OpenSpec.ofChange versionOrderSpec)) versionOrderCard

/-- THE SECOND FORM's CARD OF 'cashierlaw17.VersionParses'. -/
def versionParsesUptoCard : Claim7 := { stood := { row := versionParsesUptoRow, standIns := [], harness := (true, "1eff100541af114cb5fc1bab4e604cc64f1cf28b91c2c66b2324785b22da1a7a"), looks := true }, kinds := [], alts := [], laidByText := true, laidKinds := [.data, .data, .data, .data, .sentinel, .sentinel, .pinned], laidTests := true, laidLooks := .later }
def VersionParsesUptoCardSaid : Prop := Claim7.holds Tryd.pinned (.plain (OpenSpec.upto versionParsesSpec)) versionParsesUptoCard

/-- THE SECOND FORM's CARD OF 'cashierlaw17.VersionAgrees'. -/
def versionAgreesUptoCard : Claim7 := { stood := { row := versionAgreesUptoRow, standIns := [], harness := (true, "1eff100541af114cb5fc1bab4e604cc64f1cf28b91c2c66b2324785b22da1a7a"), looks := true }, kinds := [], alts := [], laidByText := true, laidKinds := [.data, .data, .data, .data, .sentinel, .sentinel, .pinned], laidTests := true, laidLooks := .later }
def VersionAgreesUptoCardSaid : Prop := Claim7.holds Tryd.pinned (.plain (OpenSpec.upto versionAgreesSpec)) versionAgreesUptoCard

/-- THE SECOND FORM's CARD OF 'cashierlaw17.VersionOrder'. -/
def versionOrderUptoCard : Claim7 := { stood := { row := versionOrderUptoRow, standIns := [], harness := (true, "1eff100541af114cb5fc1bab4e604cc64f1cf28b91c2c66b2324785b22da1a7a"), looks := true }, kinds := [], alts := [], laidByText := true, laidKinds := [.data, .data, .data, .data, .sentinel, .sentinel, .pinned], laidTests := true, laidLooks := .later }
def VersionOrderUptoCardSaid : Prop := Claim7.holds Tryd.pinned (.plain (OpenSpec.upto versionOrderSpec)) versionOrderUptoCard
end Rows
end Go.Proofs.YtiggnmhoececfaaDoor
