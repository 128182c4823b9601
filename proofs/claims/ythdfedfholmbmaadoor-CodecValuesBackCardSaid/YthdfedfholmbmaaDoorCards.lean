/-
  DERIVED. GIVEN WITH THE SEED: THE CARDS: each row of YthdfedfholmbmaaDoorRows.lean that lists a variable, with what it lists TIED to the program's text (the seventh form; the later family's looks); each row that meets fmt, with fmt's text TOLD by the authors' own Lean function (tested against real Go, not proved from fmt's source: count such statements apart). THE CARD IS WHAT COUNTS. Prove the row's statement (the work); the ties are given (YthdfedfholmbmaaDoorTie.lean); close each card by the builder's one call (the guide's Derived/Test/ToyasCard.lean, 'card_holds'). Laid BY PROGRAM, IN A SANDBOX (cutbox-door.mjs). By AI agents, Wed Nov 11 2026. No macro, syntax, notation, axiom, sorry.
-/
import Derived.Test.YthdfedfholmbmaaDoorRows
import GoSem.ClaimSeven
namespace Go.Proofs.YthdfedfholmbmaaDoor
namespace Rows

/-- THE TIED CARD OF 'latticelaw19.CodecNumbers'. -/
def codecNumbersCard : Claim7 := { stood := { row := codecNumbersRow, standIns := [], harness := (true, "709afe38186c164a9543e760b53eb4bdac97fa7199998e345d1c0bd2c66e6684"), looks := true }, kinds := [], alts := [], laidByText := true, laidKinds := [.data, .pinned], laidTests := true, laidLooks := .later }
def CodecNumbersCardSaid : Prop := Claim7.holds Tryd.pinned (.plain (OpenSpec.ofChange codecNumbersSpec)) codecNumbersCard

/-- THE TIED CARD OF 'latticelaw19.CodecValuesBack'. -/
def codecValuesBackCard : Claim7 := { stood := { row := codecValuesBackRow, standIns := [], harness := (true, "709afe38186c164a9543e760b53eb4bdac97fa7199998e345d1c0bd2c66e6684"), looks := true }, kinds := [], alts := [], laidByText := true, laidKinds := [.data, .pinned], laidTests := true, laidLooks := .later }
def CodecValuesBackCardSaid : Prop := Claim7.holds Tryd.pinned (.plain (OpenSpec.ofChange codecValuesBackSpec)) codecValuesBackCard

/-- THE SECOND FORM's CARD OF 'latticelaw19.CodecNumbers'. -/
def codecNumbersUptoCard : Claim7 := { stood := { row := codecNumbersUptoRow, standIns := [], harness := (true, "709afe38186c164a9543e760b53eb4bdac97fa7199998e345d1c0bd2c66e6684"), looks := true }, kinds := [], alts := [], laidByText := true, laidKinds := [.data, .pinned], laidTests := true, laidLooks := .later }
def CodecNumbersUptoCardSaid : Prop := Claim7.holds Tryd.pinned (.plain (OpenSpec.upto codecNumbersSpec)) codecNumbersUptoCard

/-- THE SECOND FORM's CARD OF 'latticelaw19.CodecValuesBack'. -/
def codecValuesBackUptoCard : Claim7 := { stood := { row := codecValuesBackUptoRow, standIns := [], harness := (true, "709afe38186c164a9543e760b53eb4bdac97fa7199998e345d1c0bd2c66e6684"), looks := true }, kinds := [], alts := [], laidByText := true, laidKinds := [.data, .pinned], laidTests := true, laidLooks := .later }
def CodecValuesBackUptoCardSaid : Prop := Claim7.holds Tryd.pinned (.plain (OpenSpec.upto codecValuesBackSpec)) codecValuesBackUptoCard
end Rows
end Go.Proofs.YthdfedfholmbmaaDoor
