/-
  DERIVED. GIVEN WITH THE SEED: THE CARDS: each row of YtihfnegakcghiaaGreatDoorRows.lean that lists a variable, with what it lists TIED to the program's text (the seventh form; the later family's looks); each row that meets fmt, with fmt's text TOLD by the authors' own Lean function (tested against real Go, not proved from fmt's source: count such statements apart). THE CARD IS WHAT COUNTS. Prove the row's statement (the work); the ties are given (YtihfnegakcghiaaGreatDoorTie.lean); close each card by the builder's one call (the guide's Derived/Test/ToyasCard.lean, 'card_holds'). Laid BY PROGRAM, IN A SANDBOX (cutbox-door.mjs). By AI agents, Wed Nov 11 2026. No macro, syntax, notation, axiom, sorry.
-/
import Derived.Test.YtihfnegakcghiaaGreatDoorRows
import GoSem.ClaimSeven
namespace Go.Proofs.YtihfnegakcghiaaGreatDoor
namespace Rows

/-- THE TIED CARD OF 'latticelaw05.GraphKeeps'. -/
def graphKeepsCard : Claim7 := { stood := { row := graphKeepsRow, standIns := [], harness := (true, "9633b5a47c1c27ca33030135d7841a03abe6bd9815ca1c20bb258990b7a88bd8"), looks := true }, kinds := [], alts := [], laidByText := true, laidKinds := [.data, .pinned], laidTests := true, laidLooks := .later }
def GraphKeepsCardSaid : Prop := Claim7.holds Tryz.pinned (.plain (OpenSpec.ofChange graphKeepsSpec)) graphKeepsCard

/-- THE TIED CARD OF 'latticelaw05.GraphApply'. -/
def graphApplyCard : Claim7 := { stood := { row := graphApplyRow, standIns := [], harness := (true, "9633b5a47c1c27ca33030135d7841a03abe6bd9815ca1c20bb258990b7a88bd8"), looks := true }, kinds := [], alts := [], laidByText := true, laidKinds := [.data, .pinned], laidTests := true, laidLooks := .later }
def GraphApplyCardSaid : Prop := Claim7.holds Tryz.pinned (.plain (OpenSpec.ofChange graphApplySpec)) graphApplyCard

/-- THE TIED CARD OF 'latticelaw05.GraphPlay'. -/
def graphPlayCard : Claim7 := { stood := { row := graphPlayRow, standIns := [], harness := (true, "9633b5a47c1c27ca33030135d7841a03abe6bd9815ca1c20bb258990b7a88bd8"), looks := true }, kinds := [], alts := [], laidByText := true, laidKinds := [.data, .pinned], laidTests := true, laidLooks := .later }
def GraphPlayCardSaid : Prop := Claim7.holds Tryz.pinned (.plain (OpenSpec.ofChange graphPlaySpec)) graphPlayCard

/-- THE TIED CARD OF 'latticelaw05.GraphNil'. -/
def graphNilCard : Claim7 := { stood := { row := graphNilRow, standIns := [], harness := (true, "9633b5a47c1c27ca33030135d7841a03abe6bd9815ca1c20bb258990b7a88bd8"), looks := true }, kinds := [], alts := [], laidByText := true, laidKinds := [.data, .pinned], laidTests := true, laidLooks := .later }
def GraphNilCardSaid : Prop := Claim7.holds Tryz.pinned (.plain (OpenSpec.ofChange graphNilSpec)) graphNilCard

/-- THE TIED CARD OF 'latticelaw05.GraphChecks'. -/
def graphChecksCard : Claim7 := { stood := { row := graphChecksRow, standIns := [], harness := (true, "9633b5a47c1c27ca33030135d7841a03abe6bd9815ca1c20bb258990b7a88bd8"), looks := true }, kinds := [], alts := [], laidByText := true, laidKinds := [.data, .pinned], laidTests := true, laidLooks := .later }
def GraphChecksCardSaid : Prop := Claim7.holds Tryz.pinned (.plain (OpenSpec.ofChange graphChecksSpec)) graphChecksCard

/-- THE TIED CARD OF 'latticelaw05.GraphDiff'. -/
def graphDiffCard : Claim7 := { stood := { row := graphDiffRow, standIns := [], harness := (true, "9633b5a47c1c27ca33030135d7841a03abe6bd9815ca1c20bb258990b7a88bd8"), looks := true }, kinds := [], alts := [], laidByText := true, laidKinds := [.data, .pinned], laidTests := true, laidLooks := .later }
def GraphDiffCardSaid : Prop := Claim7.holds Tryz.pinned (.plain (OpenSpec.ofChange graphDiffSpec)) graphDiffCard

/-- THE SECOND FORM's CARD OF 'latticelaw05.GraphKeeps'. -/
def graphKeepsUptoCard : Claim7 := { stood := { row := graphKeepsUptoRow, standIns := [], harness := (true, "9633b5a47c1c27ca33030135d7841a03abe6bd9815ca1c20bb258990b7a88bd8"), looks := true }, kinds := [], alts := [], laidByText := true, laidKinds := [.data, .pinned], laidTests := true, laidLooks := .later }
def GraphKeepsUptoCardSaid : Prop := Claim7.holds Tryz.pinned (.plain (OpenSpec.upto graphKeepsSpec)) graphKeepsUptoCard

/-- THE SECOND FORM's CARD OF 'latticelaw05.GraphApply'. -/
def graphApplyUptoCard : Claim7 := { stood := { row := graphApplyUptoRow, standIns := [], harness := (true, "9633b5a47c1c27ca33030135d7841a03abe6bd9815ca1c20bb258990b7a88bd8"), looks := true }, kinds := [], alts := [], laidByText := true, laidKinds := [.data, .pinned], laidTests := true, laidLooks := .later }
def GraphApplyUptoCardSaid : Prop := Claim7.holds Tryz.pinned (.plain (OpenSpec.upto graphApplySpec)) graphApplyUptoCard

/-- THE SECOND FORM's CARD OF 'latticelaw05.GraphPlay'. -/
def graphPlayUptoCard : Claim7 := { stood := { row := graphPlayUptoRow, standIns := [], harness := (true, "9633b5a47c1c27ca33030135d7841a03abe6bd9815ca1c20bb258990b7a88bd8"), looks := true }, kinds := [], alts := [], laidByText := true, laidKinds := [.data, .pinned], laidTests := true, laidLooks := .later }
def GraphPlayUptoCardSaid : Prop := Claim7.holds Tryz.pinned (.plain (OpenSpec.upto graphPlaySpec)) graphPlayUptoCard

/-- THE SECOND FORM's CARD OF 'latticelaw05.GraphNil'. -/
def graphNilUptoCard : Claim7 := { stood := { row := graphNilUptoRow, standIns := [], harness := (true, "9633b5a47c1c27ca33030135d7841a03abe6bd9815ca1c20bb258990b7a88bd8"), looks := true }, kinds := [], alts := [], laidByText := true, laidKinds := [.data, .pinned], laidTests := true, laidLooks := .later }
def GraphNilUptoCardSaid : Prop := Claim7.holds Tryz.pinned (.plain (OpenSpec.upto graphNilSpec)) graphNilUptoCard

/-- THE SECOND FORM's CARD OF 'latticelaw05.GraphChecks'. -/
def graphChecksUptoCard : Claim7 := { stood := { row := graphChecksUptoRow, standIns := [], harness := (true, "9633b5a47c1c27ca33030135d7841a03abe6bd9815ca1c20bb258990b7a88bd8"), looks := true }, kinds := [], alts := [], laidByText := true, laidKinds := [.data, .pinned], laidTests := true, laidLooks := .later }
def GraphChecksUptoCardSaid : Prop := Claim7.holds Tryz.pinned (.plain (OpenSpec.upto graphChecksSpec)) graphChecksUptoCard

/-- THE SECOND FORM's CARD OF 'latticelaw05.GraphDiff'. -/
def graphDiffUptoCard : Claim7 := { stood := { row := graphDiffUptoRow, standIns := [], harness := (true, "9633b5a47c1c27ca33030135d7841a03abe6bd9815ca1c20bb258990b7a88bd8"), looks := true }, kinds := [], alts := [], laidByText := true, laidKinds := [.data, .pinned], laidTests := true, laidLooks := .later }
def GraphDiffUptoCardSaid : Prop := Claim7.holds Tryz.pinned (.plain (OpenSpec.upto graphDiffSpec)) graphDiffUptoCard
end Rows
end Go.Proofs.YtihfnegakcghiaaGreatDoor
