/-
  DERIVED. GIVEN WITH THE SEED: THE CARDS: each row of YtnkaegdnjfpliaaGreatDoorRows.lean that lists a variable, with what it lists TIED to the program's text (the seventh form; the later family's looks); each row that meets fmt, with fmt's text TOLD by the authors' own Lean function (tested against real Go, not proved from fmt's source: count such statements apart). THE CARD IS WHAT COUNTS. Prove the row's statement (the work); the ties are given (YtnkaegdnjfpliaaGreatDoorTie.lean); close each card by the builder's one call (the guide's Derived/Test/ToyasCard.lean, 'card_holds'). Laid BY PROGRAM, IN A SANDBOX (cutbox-door.mjs). By AI agents, Wed Nov 11 2026. No macro, syntax, notation, axiom, sorry.
-/
import Derived.Test.YtnkaegdnjfpliaaGreatDoorRows
import GoSem.ClaimSeven
namespace Go.Proofs.YtnkaegdnjfpliaaGreatDoor
namespace Rows

/-- THE TIED CARD OF 'latticelaw01.ValueOrders'. -/
def valueOrdersCard : Claim7 := { stood := { row := valueOrdersRow, standIns := [], harness := (true, "541050135a4ae63573153b942905868de3e811d8a5bb89e3a2a615778747f658"), looks := true }, kinds := [], alts := [], laidByText := true, laidKinds := [.data, .data, .data, .data, .pinned], laidTests := true, laidLooks := .later }
def ValueOrdersCardSaid : Prop := Claim7.holds Tryz.pinned (.plain (OpenSpec.ofChange valueOrdersSpec)) valueOrdersCard

/-- THE TIED CARD OF 'latticelaw01.ValueEquals'. -/
def valueEqualsCard : Claim7 := { stood := { row := valueEqualsRow, standIns := [], harness := (true, "541050135a4ae63573153b942905868de3e811d8a5bb89e3a2a615778747f658"), looks := true }, kinds := [], alts := [], laidByText := true, laidKinds := [.data, .data, .data, .data, .pinned], laidTests := true, laidLooks := .later }
def ValueEqualsCardSaid : Prop := Claim7.holds Tryz.pinned (.plain (OpenSpec.ofChange valueEqualsSpec)) valueEqualsCard

/-- THE TIED CARD OF 'latticelaw01.ValueTexts'. -/
def valueTextsCard : Claim7 := { stood := { row := valueTextsRow, standIns := [], harness := (true, "541050135a4ae63573153b942905868de3e811d8a5bb89e3a2a615778747f658"), looks := true }, kinds := [], alts := [], laidByText := true, laidKinds := [.data, .data, .data, .data, .pinned], laidTests := true, laidLooks := .later }
def ValueTextsCardSaid : Prop := Claim7.holds Tryz.pinned (.plain (OpenSpec.ofChange valueTextsSpec)) valueTextsCard

/-- THE TIED CARD OF 'latticelaw01.ValueMakes'. -/
def valueMakesCard : Claim7 := { stood := { row := valueMakesRow, standIns := [], harness := (true, "541050135a4ae63573153b942905868de3e811d8a5bb89e3a2a615778747f658"), looks := true }, kinds := [], alts := [], laidByText := true, laidKinds := [.data, .data, .data, .data, .pinned], laidTests := true, laidLooks := .later }
def ValueMakesCardSaid : Prop := Claim7.holds Tryz.pinned (.plain (OpenSpec.ofChange valueMakesSpec)) valueMakesCard

/-- THE TIED CARD OF 'latticelaw01.ValueTotal'. -/
def valueTotalCard : Claim7 := { stood := { row := valueTotalRow, standIns := [], harness := (true, "541050135a4ae63573153b942905868de3e811d8a5bb89e3a2a615778747f658"), looks := true }, kinds := [], alts := [], laidByText := true, laidKinds := [.data, .data, .data, .data, .pinned], laidTests := true, laidLooks := .later }
def ValueTotalCardSaid : Prop := Claim7.holds Tryz.pinned (.plain (OpenSpec.ofChange valueTotalSpec)) valueTotalCard

/-- THE TIED CARD OF 'latticelaw01.ValueEqual'. -/
def valueEqualCard : Claim7 := { stood := { row := valueEqualRow, standIns := [], harness := (true, "541050135a4ae63573153b942905868de3e811d8a5bb89e3a2a615778747f658"), looks := true }, kinds := [], alts := [], laidByText := true, laidKinds := [.data, .data, .data, .data, .pinned], laidTests := true, laidLooks := .later }
def ValueEqualCardSaid : Prop := Claim7.holds Tryz.pinned (.plain (OpenSpec.ofChange valueEqualSpec)) valueEqualCard

/-- THE TIED CARD OF 'latticelaw01.ValueRows'. -/
def valueRowsCard : Claim7 := { stood := { row := valueRowsRow, standIns := [], harness := (true, "541050135a4ae63573153b942905868de3e811d8a5bb89e3a2a615778747f658"), looks := true }, kinds := [], alts := [], laidByText := true, laidKinds := [.data, .data, .data, .data, .pinned], laidTests := true, laidLooks := .later }
def ValueRowsCardSaid : Prop := Claim7.holds Tryz.pinned (.plain (OpenSpec.ofChange valueRowsSpec)) valueRowsCard

/-- THE TIED CARD OF 'latticelaw01.ValueOne'. -/
def valueOneCard : Claim7 := { stood := { row := valueOneRow, standIns := [], harness := (true, "541050135a4ae63573153b942905868de3e811d8a5bb89e3a2a615778747f658"), looks := true }, kinds := [], alts := [], laidByText := true, laidKinds := [.data, .data, .data, .data, .pinned], laidTests := true, laidLooks := .later }
def ValueOneCardSaid : Prop := Claim7.holds Tryz.pinned (.plain (OpenSpec.ofChange valueOneSpec)) valueOneCard

/-- THE TIED CARD OF 'latticelaw01.ValueChecks'. -/
def valueChecksCard : Claim7 := { stood := { row := valueChecksRow, standIns := [], harness := (true, "541050135a4ae63573153b942905868de3e811d8a5bb89e3a2a615778747f658"), looks := true }, kinds := [], alts := [], laidByText := true, laidKinds := [.data, .data, .data, .data, .pinned], laidTests := true, laidLooks := .later }
def ValueChecksCardSaid : Prop := Claim7.holds Tryz.pinned (.plain (OpenSpec.ofChange valueChecksSpec)) valueChecksCard

/-- THE TIED CARD OF 'latticelaw01.ValueLists'. -/
def valueListsCard : Claim7 := { stood := { row := valueListsRow, standIns := [], harness := (true, "541050135a4ae63573153b942905868de3e811d8a5bb89e3a2a615778747f658"), looks := true }, kinds := [], alts := [], laidByText := true, laidKinds := [.data, .data, .data, .data, .pinned], laidTests := true, laidLooks := .later }
def ValueListsCardSaid : Prop := Claim7.holds Tryz.pinned (.plain (OpenSpec.ofChange valueListsSpec)) valueListsCard

/-- THE TIED CARD OF 'latticelaw01.ValueSorted'. -/
def valueSortedCard : Claim7 := { stood := { row := valueSortedRow, standIns := [], harness := (true, "541050135a4ae63573153b942905868de3e811d8a5bb89e3a2a615778747f658"), looks := true }, kinds := [], alts := [], laidByText := true, laidKinds := [.data, .data, .data, .data, .pinned], laidTests := true, laidLooks := .later }
def ValueSortedCardSaid : Prop := Claim7.holds Tryz.pinned (.plain (OpenSpec.ofChange valueSortedSpec)) valueSortedCard

/-- THE TIED CARD OF 'latticelaw01.ValueBounds'. -/
def valueBoundsCard : Claim7 := { stood := { row := valueBoundsRow, standIns := [], harness := (true, "541050135a4ae63573153b942905868de3e811d8a5bb89e3a2a615778747f658"), looks := true }, kinds := [], alts := [], laidByText := true, laidKinds := [.data, .data, .data, .data, .pinned], laidTests := true, laidLooks := .later }
def ValueBoundsCardSaid : Prop := Claim7.holds Tryz.pinned (.plain (OpenSpec.ofChange valueBoundsSpec)) valueBoundsCard

/-- THE SECOND FORM's CARD OF 'latticelaw01.ValueOrders'. -/
def valueOrdersUptoCard : Claim7 := { stood := { row := valueOrdersUptoRow, standIns := [], harness := (true, "541050135a4ae63573153b942905868de3e811d8a5bb89e3a2a615778747f658"), looks := true }, kinds := [], alts := [], laidByText := true, laidKinds := [.data, .data, .data, .data, .pinned], laidTests := true, laidLooks := .later }
def ValueOrdersUptoCardSaid : Prop := Claim7.holds Tryz.pinned (.plain (OpenSpec.upto valueOrdersSpec)) valueOrdersUptoCard

/-- THE SECOND FORM's CARD OF 'latticelaw01.ValueEquals'. -/
def valueEqualsUptoCard : Claim7 := { stood := { row := valueEqualsUptoRow, standIns := [], harness := (true, "541050135a4ae63573153b942905868de3e811d8a5bb89e3a2a615778747f658"), looks := true }, kinds := [], alts := [], laidByText := true, laidKinds := [.data, .data, .data, .data, .pinned], laidTests := true, laidLooks := .later }
def ValueEqualsUptoCardSaid : Prop := Claim7.holds Tryz.pinned (.plain (OpenSpec.upto valueEqualsSpec)) valueEqualsUptoCard

/-- THE SECOND FORM's CARD OF 'latticelaw01.ValueTexts'. -/
def valueTextsUptoCard : Claim7 := { stood := { row := valueTextsUptoRow, standIns := [], harness := (true, "541050135a4ae63573153b942905868de3e811d8a5bb89e3a2a615778747f658"), looks := true }, kinds := [], alts := [], laidByText := true, laidKinds := [.data, .data, .data, .data, .pinned], laidTests := true, laidLooks := .later }
def ValueTextsUptoCardSaid : Prop := Claim7.holds Tryz.pinned (.plain (OpenSpec.upto valueTextsSpec)) valueTextsUptoCard

/-- THE SECOND FORM's CARD OF 'latticelaw01.ValueMakes'. -/
def valueMakesUptoCard : Claim7 := { stood := { row := valueMakesUptoRow, standIns := [], harness := (true, "541050135a4ae63573153b942905868de3e811d8a5bb89e3a2a615778747f658"), looks := true }, kinds := [], alts := [], laidByText := true, laidKinds := [.data, .data, .data, .data, .pinned], laidTests := true, laidLooks := .later }
def ValueMakesUptoCardSaid : Prop := Claim7.holds Tryz.pinned (.plain (OpenSpec.upto valueMakesSpec)) valueMakesUptoCard

/-- THE SECOND FORM's CARD OF 'latticelaw01.ValueTotal'. -/
def valueTotalUptoCard : Claim7 := { stood := { row := valueTotalUptoRow, standIns := [], harness := (true, "541050135a4ae63573153b942905868de3e811d8a5bb89e3a2a615778747f658"), looks := true }, kinds := [], alts := [], laidByText := true, laidKinds := [.data, .data, .data, .data, .pinned], laidTests := true, laidLooks := .later }
def ValueTotalUptoCardSaid : Prop := Claim7.holds Tryz.pinned (.plain (OpenSpec.upto valueTotalSpec)) valueTotalUptoCard

/-- THE SECOND FORM's CARD OF 'latticelaw01.ValueEqual'. -/
def valueEqualUptoCard : Claim7 := { stood := { row := valueEqualUptoRow, standIns := [], harness := (true, "541050135a4ae63573153b942905868de3e811d8a5bb89e3a2a615778747f658"), looks := true }, kinds := [], alts := [], laidByText := true, laidKinds := [.data, .data, .data, .data, .pinned], laidTests := true, laidLooks := .later }
def ValueEqualUptoCardSaid : Prop := Claim7.holds Tryz.pinned (.plain (OpenSpec.upto valueEqualSpec)) valueEqualUptoCard

/-- THE SECOND FORM's CARD OF 'latticelaw01.ValueRows'. -/
def valueRowsUptoCard : Claim7 := { stood := { row := valueRowsUptoRow, standIns := [], harness := (true, "541050135a4ae63573153b942905868de3e811d8a5bb89e3a2a615778747f658"), looks := true }, kinds := [], alts := [], laidByText := true, laidKinds := [.data, .data, .data, .data, .pinned], laidTests := true, laidLooks := .later }
def ValueRowsUptoCardSaid : Prop := Claim7.holds Tryz.pinned (.plain (OpenSpec.upto valueRowsSpec)) valueRowsUptoCard

/-- THE SECOND FORM's CARD OF 'latticelaw01.ValueOne'. -/
def valueOneUptoCard : Claim7 := { stood := { row := valueOneUptoRow, standIns := [], harness := (true, "541050135a4ae63573153b942905868de3e811d8a5bb89e3a2a615778747f658"), looks := true }, kinds := [], alts := [], laidByText := true, laidKinds := [.data, .data, .data, .data, .pinned], laidTests := true, laidLooks := .later }
def ValueOneUptoCardSaid : Prop := Claim7.holds Tryz.pinned (.plain (OpenSpec.upto valueOneSpec)) valueOneUptoCard

/-- THE SECOND FORM's CARD OF 'latticelaw01.ValueChecks'. -/
def valueChecksUptoCard : Claim7 := { stood := { row := valueChecksUptoRow, standIns := [], harness := (true, "541050135a4ae63573153b942905868de3e811d8a5bb89e3a2a615778747f658"), looks := true }, kinds := [], alts := [], laidByText := true, laidKinds := [.data, .data, .data, .data, .pinned], laidTests := true, laidLooks := .later }
def ValueChecksUptoCardSaid : Prop := Claim7.holds Tryz.pinned (.plain (OpenSpec.upto valueChecksSpec)) valueChecksUptoCard

/-- THE SECOND FORM's CARD OF 'latticelaw01.ValueLists'. -/
def valueListsUptoCard : Claim7 := { stood := { row := valueListsUptoRow, standIns := [], harness := (true, "541050135a4ae63573153b942905868de3e811d8a5bb89e3a2a615778747f658"), looks := true }, kinds := [], alts := [], laidByText := true, laidKinds := [.data, .data, .data, .data, .pinned], laidTests := true, laidLooks := .later }
def ValueListsUptoCardSaid : Prop := Claim7.holds Tryz.pinned (.plain (OpenSpec.upto valueListsSpec)) valueListsUptoCard

/-- THE SECOND FORM's CARD OF 'latticelaw01.ValueSorted'. -/
def valueSortedUptoCard : Claim7 := { stood := { row := valueSortedUptoRow, standIns := [], harness := (true, "541050135a4ae63573153b942905868de3e811d8a5bb89e3a2a615778747f658"), looks := true }, kinds := [], alts := [], laidByText := true, laidKinds := [.data, .data, .data, .data, .pinned], laidTests := true, laidLooks := .later }
def ValueSortedUptoCardSaid : Prop := Claim7.holds Tryz.pinned (.plain (OpenSpec.upto valueSortedSpec)) valueSortedUptoCard

/-- THE SECOND FORM's CARD OF 'latticelaw01.ValueBounds'. -/
def valueBoundsUptoCard : Claim7 := { stood := { row := valueBoundsUptoRow, standIns := [], harness := (true, "541050135a4ae63573153b942905868de3e811d8a5bb89e3a2a615778747f658"), looks := true }, kinds := [], alts := [], laidByText := true, laidKinds := [.data, .data, .data, .data, .pinned], laidTests := true, laidLooks := .later }
def ValueBoundsUptoCardSaid : Prop := Claim7.holds Tryz.pinned (.plain (OpenSpec.upto valueBoundsSpec)) valueBoundsUptoCard
end Rows
end Go.Proofs.YtnkaegdnjfpliaaGreatDoor
