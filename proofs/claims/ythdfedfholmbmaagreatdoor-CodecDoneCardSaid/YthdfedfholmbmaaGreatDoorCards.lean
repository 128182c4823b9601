/-
  DERIVED. GIVEN WITH THE SEED: THE CARDS: each row of YthdfedfholmbmaaGreatDoorRows.lean that lists a variable, with what it lists TIED to the program's text (the seventh form; the later family's looks); each row that meets fmt, with fmt's text TOLD by the authors' own Lean function (tested against real Go, not proved from fmt's source: count such statements apart). THE CARD IS WHAT COUNTS. Prove the row's statement (the work); the ties are given (YthdfedfholmbmaaGreatDoorTie.lean); close each card by the builder's one call (the guide's Derived/Test/ToyasCard.lean, 'card_holds'). Laid BY PROGRAM, IN A SANDBOX (cutbox-door.mjs). By AI agents, Wed Nov 11 2026. No macro, syntax, notation, axiom, sorry.
-/
import Derived.Test.YthdfedfholmbmaaGreatDoorRows
import GoSem.ClaimSeven
namespace Go.Proofs.YthdfedfholmbmaaGreatDoor
namespace Rows

/-- THE TIED CARD OF 'latticelaw19.CodecGraphs'. -/
def codecGraphsCard : Claim7 := { stood := { row := codecGraphsRow, standIns := [], harness := (true, "51d6d183f3b9b26ed98afca7791da6a3b37e43a2ee8010f5d16b56af07fe616a"), looks := true }, kinds := [], alts := [], laidByText := true, laidKinds := [.data, .pinned], laidTests := true, laidLooks := .later }
def CodecGraphsCardSaid : Prop := Claim7.holds Tryz.pinned (.plain (OpenSpec.ofChange codecGraphsSpec)) codecGraphsCard

/-- THE TIED CARD OF 'latticelaw19.CodecValues'. -/
def codecValuesCard : Claim7 := { stood := { row := codecValuesRow, standIns := [], harness := (true, "51d6d183f3b9b26ed98afca7791da6a3b37e43a2ee8010f5d16b56af07fe616a"), looks := true }, kinds := [], alts := [], laidByText := true, laidKinds := [.data, .pinned], laidTests := true, laidLooks := .later }
def CodecValuesCardSaid : Prop := Claim7.holds Tryz.pinned (.plain (OpenSpec.ofChange codecValuesSpec)) codecValuesCard

/-- THE TIED CARD OF 'latticelaw19.CodecChanges'. -/
def codecChangesCard : Claim7 := { stood := { row := codecChangesRow, standIns := [], harness := (true, "51d6d183f3b9b26ed98afca7791da6a3b37e43a2ee8010f5d16b56af07fe616a"), looks := true }, kinds := [], alts := [], laidByText := true, laidKinds := [.data, .pinned], laidTests := true, laidLooks := .later }
def CodecChangesCardSaid : Prop := Claim7.holds Tryz.pinned (.plain (OpenSpec.ofChange codecChangesSpec)) codecChangesCard

/-- THE TIED CARD OF 'latticelaw19.CodecBounds'. -/
def codecBoundsCard : Claim7 := { stood := { row := codecBoundsRow, standIns := [], harness := (true, "51d6d183f3b9b26ed98afca7791da6a3b37e43a2ee8010f5d16b56af07fe616a"), looks := true }, kinds := [], alts := [], laidByText := true, laidKinds := [.data, .pinned], laidTests := true, laidLooks := .later }
def CodecBoundsCardSaid : Prop := Claim7.holds Tryz.pinned (.plain (OpenSpec.ofChange codecBoundsSpec)) codecBoundsCard

/-- THE TIED CARD OF 'latticelaw19.CodecBack'. -/
def codecBackCard : Claim7 := { stood := { row := codecBackRow, standIns := [], harness := (true, "51d6d183f3b9b26ed98afca7791da6a3b37e43a2ee8010f5d16b56af07fe616a"), looks := true }, kinds := [], alts := [], laidByText := true, laidKinds := [.data, .pinned], laidTests := true, laidLooks := .later }
def CodecBackCardSaid : Prop := Claim7.holds Tryz.pinned (.plain (OpenSpec.ofChange codecBackSpec)) codecBackCard

/-- THE TIED CARD OF 'latticelaw19.CodecDone'. -/
def codecDoneCard : Claim7 := { stood := { row := codecDoneRow, standIns := [], harness := (true, "51d6d183f3b9b26ed98afca7791da6a3b37e43a2ee8010f5d16b56af07fe616a"), looks := true }, kinds := [], alts := [], laidByText := true, laidKinds := [.data, .pinned], laidTests := true, laidLooks := .later }
def CodecDoneCardSaid : Prop := Claim7.holds Tryz.pinned (.plain (OpenSpec.ofChange codecDoneSpec)) codecDoneCard

/-- THE SECOND FORM's CARD OF 'latticelaw19.CodecGraphs'. -/
def codecGraphsUptoCard : Claim7 := { stood := { row := codecGraphsUptoRow, standIns := [], harness := (true, "51d6d183f3b9b26ed98afca7791da6a3b37e43a2ee8010f5d16b56af07fe616a"), looks := true }, kinds := [], alts := [], laidByText := true, laidKinds := [.data, .pinned], laidTests := true, laidLooks := .later }
def CodecGraphsUptoCardSaid : Prop := Claim7.holds Tryz.pinned (.plain (OpenSpec.upto codecGraphsSpec)) codecGraphsUptoCard

/-- THE SECOND FORM's CARD OF 'latticelaw19.CodecValues'. -/
def codecValuesUptoCard : Claim7 := { stood := { row := codecValuesUptoRow, standIns := [], harness := (true, "51d6d183f3b9b26ed98afca7791da6a3b37e43a2ee8010f5d16b56af07fe616a"), looks := true }, kinds := [], alts := [], laidByText := true, laidKinds := [.data, .pinned], laidTests := true, laidLooks := .later }
def CodecValuesUptoCardSaid : Prop := Claim7.holds Tryz.pinned (.plain (OpenSpec.upto codecValuesSpec)) codecValuesUptoCard

/-- THE SECOND FORM's CARD OF 'latticelaw19.CodecChanges'. -/
def codecChangesUptoCard : Claim7 := { stood := { row := codecChangesUptoRow, standIns := [], harness := (true, "51d6d183f3b9b26ed98afca7791da6a3b37e43a2ee8010f5d16b56af07fe616a"), looks := true }, kinds := [], alts := [], laidByText := true, laidKinds := [.data, .pinned], laidTests := true, laidLooks := .later }
def CodecChangesUptoCardSaid : Prop := Claim7.holds Tryz.pinned (.plain (OpenSpec.upto codecChangesSpec)) codecChangesUptoCard

/-- THE SECOND FORM's CARD OF 'latticelaw19.CodecBounds'. -/
def codecBoundsUptoCard : Claim7 := { stood := { row := codecBoundsUptoRow, standIns := [], harness := (true, "51d6d183f3b9b26ed98afca7791da6a3b37e43a2ee8010f5d16b56af07fe616a"), looks := true }, kinds := [], alts := [], laidByText := true, laidKinds := [.data, .pinned], laidTests := true, laidLooks := .later }
def CodecBoundsUptoCardSaid : Prop := Claim7.holds Tryz.pinned (.plain (OpenSpec.upto codecBoundsSpec)) codecBoundsUptoCard

/-- THE SECOND FORM's CARD OF 'latticelaw19.CodecBack'. -/
def codecBackUptoCard : Claim7 := { stood := { row := codecBackUptoRow, standIns := [], harness := (true, "51d6d183f3b9b26ed98afca7791da6a3b37e43a2ee8010f5d16b56af07fe616a"), looks := true }, kinds := [], alts := [], laidByText := true, laidKinds := [.data, .pinned], laidTests := true, laidLooks := .later }
def CodecBackUptoCardSaid : Prop := Claim7.holds Tryz.pinned (.plain (OpenSpec.upto codecBackSpec)) codecBackUptoCard

/-- THE SECOND FORM's CARD OF 'latticelaw19.CodecDone'. -/
def codecDoneUptoCard : Claim7 := { stood := { row := codecDoneUptoRow, standIns := [], harness := (true, "51d6d183f3b9b26ed98afca7791da6a3b37e43a2ee8010f5d16b56af07fe616a"), looks := true }, kinds := [], alts := [], laidByText := true, laidKinds := [.data, .pinned], laidTests := true, laidLooks := .later }
def CodecDoneUptoCardSaid : Prop := Claim7.holds Tryz.pinned (.plain (OpenSpec.upto codecDoneSpec)) codecDoneUptoCard
end Rows
end Go.Proofs.YthdfedfholmbmaaGreatDoor
