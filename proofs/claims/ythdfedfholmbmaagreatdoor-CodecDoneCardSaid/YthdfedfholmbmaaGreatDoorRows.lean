/-
  NARROWER THAN 'FOR EVERY INPUT', by the rows' own cells (each row's printed sentence says how): CodecGraphs: loops, laid · CodecValues: loops, laid · CodecChanges: loops, laid · CodecBounds: laid · CodecBack: loops, laid · CodecDone: loops, laid.
  DERIVED. THE GIVEN ROWS OF THIS SEAT. 6 by the template 'for every input the law returns true; each argument reads behind the call as it read before'; 0 by the template 'total and deterministic' (their statements: YthdfedfholmbmaaGreatDoorTotals.lean).
  GIVEN WITH THE SEED: the statements are not yours to turn. If you find one false, say at which input.
  Laid BY PROGRAM, IN A SANDBOX (cutbox-rows.mjs): the forced cells as the released guide's own fill.sh prints them over the translation 82d50d8ca884adac… (all of the seat's roots in one cut). By AI agents, Wed Nov 11 2026. No macro, syntax, notation, axiom, sorry.
-/
import Derived.Test.YthdfedfholmbmaaGreatDoorChecked
import GoSem.PinnedTables
import GoSem.Claim
import GoSem.ClaimJoined
import GoSem.ClaimMapViews
import Derived.JoinedTies
import Derived.KernelRfl
namespace Go.Proofs.YthdfedfholmbmaaGreatDoor
/- THE CELL 'sum', in the pinned program and in every row, IS THE sha256 OF THE DUMP (.gsa) THAT YthdfedfholmbmaaGreatDoorProg.lean LOADS. Nothing in Lean hashes anything: it is a label: what it is worth is what the hold of that sum in a sandbox is worth. -/
noncomputable def Tryz.pinned : Pinned := { name := "ythdfedfholmbmaagreatdoor", sum := "82d50d8ca884adacaf1cfe1325018acb3dc369d8d3235ad16ea7ed64a61ae4d2", checked := Tryz.checked }
namespace Rows
def none {H : Type} : Left H := { results := [], args := [] }

/- WHAT THE LISTED PACKAGE-LEVEL VARIABLES READ AS WHEN THE CALL BEGINS. Each datum BY PROGRAM (the guide's laid-datum.mjs) off the statement by which the dump's own 'gosem.cut.vars' lays the variable. In a bare row this is a premise. The card (YthdfedfholmbmaaGreatDoorCards.lean) ties it to the program's text. -/
def laid_unicode_utf8_acceptRanges {H : Type} : DataW H := .agg [.agg [.lit (.int .u8 128), .lit (.int .u8 191)], .agg [.lit (.int .u8 160), .lit (.int .u8 191)], .agg [.lit (.int .u8 128), .lit (.int .u8 159)], .agg [.lit (.int .u8 144), .lit (.int .u8 191)], .agg [.lit (.int .u8 128), .lit (.int .u8 143)], .agg [.lit (.int .u8 0), .lit (.int .u8 0)], .agg [.lit (.int .u8 0), .lit (.int .u8 0)], .agg [.lit (.int .u8 0), .lit (.int .u8 0)], .agg [.lit (.int .u8 0), .lit (.int .u8 0)], .agg [.lit (.int .u8 0), .lit (.int .u8 0)], .agg [.lit (.int .u8 0), .lit (.int .u8 0)], .agg [.lit (.int .u8 0), .lit (.int .u8 0)], .agg [.lit (.int .u8 0), .lit (.int .u8 0)], .agg [.lit (.int .u8 0), .lit (.int .u8 0)], .agg [.lit (.int .u8 0), .lit (.int .u8 0)], .agg [.lit (.int .u8 0), .lit (.int .u8 0)]]
/-- One of Go's own tables, pinned by name: the form's constant. -/
def laid_unicode_utf8_first : DataW Unit := Go.Pinned.utf8First

/-- 'latticelaw19.CodecGraphs': WHATEVER THE INPUT: true; the input reads as it did. -/
def codecGraphsSpec : ChangeSpec := { name := "codecGraphs", fn := fun _ => fun
  | [d1, d2] => { results := [.lit (.bool true)], args := [d1, d2] }
  | _ => none }
def codecGraphsRow : OpenClaim := { program := "ythdfedfholmbmaagreatdoor", sum := "82d50d8ca884adacaf1cfe1325018acb3dc369d8d3235ad16ea7ed64a61ae4d2", func := "lattice/latticelaw19.CodecGraphs", spec := "codecGraphs", inPlace := ["internal/bytealg.IndexByteString"], unfollowed := true, recurses := true, named := ["unicode/utf8.first", "unicode/utf8.acceptRanges"], loops := true, apart := false, laid := [("unicode/utf8.acceptRanges", laid_unicode_utf8_acceptRanges), ("unicode/utf8.first", laid_unicode_utf8_first)] }
def CodecGraphsSaid : Prop := codecGraphsRow.holds Tryz.pinned (OpenSpec.ofChange codecGraphsSpec)

/-- ITS FALSE NEIGHBOUR: 'it returns false'. Refute it at one input. -/
def codecGraphsWrong : ChangeSpec := { name := "codecGraphs", fn := fun _ => fun
  | [d1, d2] => { results := [.lit (.bool false)], args := [d1, d2] }
  | _ => none }
def CodecGraphsWrongFalsely : Prop := codecGraphsRow.holds Tryz.pinned (OpenSpec.ofChange codecGraphsWrong)

/-- 'latticelaw19.CodecValues': WHATEVER THE INPUT: true; the input reads as it did. -/
def codecValuesSpec : ChangeSpec := { name := "codecValues", fn := fun _ => fun
  | [d1, d2] => { results := [.lit (.bool true)], args := [d1, d2] }
  | _ => none }
def codecValuesRow : OpenClaim := { program := "ythdfedfholmbmaagreatdoor", sum := "82d50d8ca884adacaf1cfe1325018acb3dc369d8d3235ad16ea7ed64a61ae4d2", func := "lattice/latticelaw19.CodecValues", spec := "codecValues", inPlace := ["internal/bytealg.IndexByteString"], unfollowed := true, recurses := true, named := ["unicode/utf8.first", "unicode/utf8.acceptRanges"], loops := true, apart := false, laid := [("unicode/utf8.acceptRanges", laid_unicode_utf8_acceptRanges), ("unicode/utf8.first", laid_unicode_utf8_first)] }
def CodecValuesSaid : Prop := codecValuesRow.holds Tryz.pinned (OpenSpec.ofChange codecValuesSpec)

/-- ITS FALSE NEIGHBOUR: 'it returns false'. Refute it at one input. -/
def codecValuesWrong : ChangeSpec := { name := "codecValues", fn := fun _ => fun
  | [d1, d2] => { results := [.lit (.bool false)], args := [d1, d2] }
  | _ => none }
def CodecValuesWrongFalsely : Prop := codecValuesRow.holds Tryz.pinned (OpenSpec.ofChange codecValuesWrong)

/-- 'latticelaw19.CodecChanges': WHATEVER THE INPUT: true; the input reads as it did. -/
def codecChangesSpec : ChangeSpec := { name := "codecChanges", fn := fun _ => fun
  | [d1, d2] => { results := [.lit (.bool true)], args := [d1, d2] }
  | _ => none }
def codecChangesRow : OpenClaim := { program := "ythdfedfholmbmaagreatdoor", sum := "82d50d8ca884adacaf1cfe1325018acb3dc369d8d3235ad16ea7ed64a61ae4d2", func := "lattice/latticelaw19.CodecChanges", spec := "codecChanges", inPlace := ["internal/bytealg.IndexByteString"], unfollowed := true, recurses := true, named := ["unicode/utf8.first", "unicode/utf8.acceptRanges"], loops := true, apart := false, laid := [("unicode/utf8.acceptRanges", laid_unicode_utf8_acceptRanges), ("unicode/utf8.first", laid_unicode_utf8_first)] }
def CodecChangesSaid : Prop := codecChangesRow.holds Tryz.pinned (OpenSpec.ofChange codecChangesSpec)

/-- ITS FALSE NEIGHBOUR: 'it returns false'. Refute it at one input. -/
def codecChangesWrong : ChangeSpec := { name := "codecChanges", fn := fun _ => fun
  | [d1, d2] => { results := [.lit (.bool false)], args := [d1, d2] }
  | _ => none }
def CodecChangesWrongFalsely : Prop := codecChangesRow.holds Tryz.pinned (OpenSpec.ofChange codecChangesWrong)

/-- 'latticelaw19.CodecBounds': WHATEVER THE INPUT: true; the input reads as it did. -/
def codecBoundsSpec : ChangeSpec := { name := "codecBounds", fn := fun _ => fun
  | [] => { results := [.lit (.bool true)], args := [] }
  | _ => none }
def codecBoundsRow : OpenClaim := { program := "ythdfedfholmbmaagreatdoor", sum := "82d50d8ca884adacaf1cfe1325018acb3dc369d8d3235ad16ea7ed64a61ae4d2", func := "lattice/latticelaw19.CodecBounds", spec := "codecBounds", inPlace := ["internal/bytealg.IndexByteString"], unfollowed := true, recurses := true, named := ["unicode/utf8.first", "unicode/utf8.acceptRanges"], apart := false, laid := [("unicode/utf8.acceptRanges", laid_unicode_utf8_acceptRanges), ("unicode/utf8.first", laid_unicode_utf8_first)] }
def CodecBoundsSaid : Prop := codecBoundsRow.holds Tryz.pinned (OpenSpec.ofChange codecBoundsSpec)

/-- ITS FALSE NEIGHBOUR: 'it returns false'. Refute it at one input. -/
def codecBoundsWrong : ChangeSpec := { name := "codecBounds", fn := fun _ => fun
  | [] => { results := [.lit (.bool false)], args := [] }
  | _ => none }
def CodecBoundsWrongFalsely : Prop := codecBoundsRow.holds Tryz.pinned (OpenSpec.ofChange codecBoundsWrong)

/-- 'latticelaw19.CodecBack': WHATEVER THE INPUT: true; the input reads as it did. -/
def codecBackSpec : ChangeSpec := { name := "codecBack", fn := fun _ => fun
  | [d1, d2, d3] => { results := [.lit (.bool true)], args := [d1, d2, d3] }
  | _ => none }
def codecBackRow : OpenClaim := { program := "ythdfedfholmbmaagreatdoor", sum := "82d50d8ca884adacaf1cfe1325018acb3dc369d8d3235ad16ea7ed64a61ae4d2", func := "lattice/latticelaw19.CodecBack", spec := "codecBack", inPlace := ["internal/bytealg.IndexByteString", "internal/bytealg.abigen_runtime_cmpstring"], unfollowed := true, recurses := true, named := ["unicode/utf8.first", "unicode/utf8.acceptRanges"], loops := true, apart := false, laid := [("unicode/utf8.acceptRanges", laid_unicode_utf8_acceptRanges), ("unicode/utf8.first", laid_unicode_utf8_first)] }
def CodecBackSaid : Prop := codecBackRow.holds Tryz.pinned (OpenSpec.ofChange codecBackSpec)

/-- ITS FALSE NEIGHBOUR: 'it returns false'. Refute it at one input. -/
def codecBackWrong : ChangeSpec := { name := "codecBack", fn := fun _ => fun
  | [d1, d2, d3] => { results := [.lit (.bool false)], args := [d1, d2, d3] }
  | _ => none }
def CodecBackWrongFalsely : Prop := codecBackRow.holds Tryz.pinned (OpenSpec.ofChange codecBackWrong)

/-- 'latticelaw19.CodecDone': WHATEVER THE INPUT: true; the input reads as it did. -/
def codecDoneSpec : ChangeSpec := { name := "codecDone", fn := fun _ => fun
  | [d1, d2] => { results := [.lit (.bool true)], args := [d1, d2] }
  | _ => none }
def codecDoneRow : OpenClaim := { program := "ythdfedfholmbmaagreatdoor", sum := "82d50d8ca884adacaf1cfe1325018acb3dc369d8d3235ad16ea7ed64a61ae4d2", func := "lattice/latticelaw19.CodecDone", spec := "codecDone", inPlace := ["internal/bytealg.IndexByteString", "slices.overlaps[int64]", "internal/bytealg.abigen_runtime_cmpstring"], unfollowed := true, recurses := true, named := ["unicode/utf8.first", "unicode/utf8.acceptRanges"], loops := true, apart := false, laid := [("unicode/utf8.acceptRanges", laid_unicode_utf8_acceptRanges), ("unicode/utf8.first", laid_unicode_utf8_first)] }
def CodecDoneSaid : Prop := codecDoneRow.holds Tryz.pinned (OpenSpec.ofChange codecDoneSpec)

/-- ITS FALSE NEIGHBOUR: 'it returns false'. Refute it at one input. -/
def codecDoneWrong : ChangeSpec := { name := "codecDone", fn := fun _ => fun
  | [d1, d2] => { results := [.lit (.bool false)], args := [d1, d2] }
  | _ => none }
def CodecDoneWrongFalsely : Prop := codecDoneRow.holds Tryz.pinned (OpenSpec.ofChange codecDoneWrong)

/- THE SECOND FORM. 'bulk': how many values and letters a reading holds, each counted each time it is reached (what is shared counts as often as it is met; a slice's spare places count too). A statement '..UptoSaid' is the law's where the arguments, and the package variables that the reading takes, are together of bulk at most 1048576: NARROWER than '..Said'. Prove '..Said' where nothing that the law and all that it calls make is longer than what came in: it says more and counts as full. Else prove '..UptoSaid'. A law counts once. -/
mutual
def uptoBulk {H : Type} : DataW H → Nat
  | .lit (.string bytes) => bytes.length + 1
  | .lit _ => 1
  | .nil => 1
  | .ptr d => uptoBulk d + 1
  | .slice elems spare => uptoBulkAll elems + uptoBulkAll spare + 1
  | .agg parts => uptoBulkAll parts + 1
  | .iface _ d => uptoBulk d + 1
  | .map entries => uptoBulkEntries entries + 1
  | .held _ => 1
def uptoBulkAll {H : Type} : List (DataW H) → Nat
  | [] => 0
  | d :: r => uptoBulk d + uptoBulkAll r
def uptoBulkEntries {H : Type} : List (Lit × DataW H) → Nat
  | [] => 0
  | x :: r => uptoBulkEntry x + uptoBulkEntries r
def uptoBulkEntry {H : Type} : Lit × DataW H → Nat
  | (.string bytes, d) => bytes.length + uptoBulk d + 1
  | (_, d) => uptoBulk d + 1
 end
def uptoSmall : (H : Type) → List (DataW H) → Bool := fun _ ds => decide (uptoBulkAll ds ≤ 1048576)
def OpenSpec.upto (s : _root_.Go.ChangeSpec) : _root_.Go.OpenSpec := { _root_.Go.OpenSpec.ofChange s with cond := some uptoSmall }

/-- 'latticelaw19.CodecGraphs', WHERE WHAT IT READS IS OF BULK AT MOST 1048576: true; the input reads as it did. -/
def codecGraphsUptoRow : OpenClaim := { program := "ythdfedfholmbmaagreatdoor", sum := "82d50d8ca884adacaf1cfe1325018acb3dc369d8d3235ad16ea7ed64a61ae4d2", func := "lattice/latticelaw19.CodecGraphs", spec := "codecGraphs", inPlace := ["internal/bytealg.IndexByteString"], unfollowed := true, recurses := true, named := ["unicode/utf8.first", "unicode/utf8.acceptRanges"], loops := true, apart := false, laid := [("unicode/utf8.acceptRanges", laid_unicode_utf8_acceptRanges), ("unicode/utf8.first", laid_unicode_utf8_first)], narrowed := true }
def CodecGraphsUptoSaid : Prop := codecGraphsUptoRow.holds Tryz.pinned (OpenSpec.upto codecGraphsSpec)

/-- 'latticelaw19.CodecValues', WHERE WHAT IT READS IS OF BULK AT MOST 1048576: true; the input reads as it did. -/
def codecValuesUptoRow : OpenClaim := { program := "ythdfedfholmbmaagreatdoor", sum := "82d50d8ca884adacaf1cfe1325018acb3dc369d8d3235ad16ea7ed64a61ae4d2", func := "lattice/latticelaw19.CodecValues", spec := "codecValues", inPlace := ["internal/bytealg.IndexByteString"], unfollowed := true, recurses := true, named := ["unicode/utf8.first", "unicode/utf8.acceptRanges"], loops := true, apart := false, laid := [("unicode/utf8.acceptRanges", laid_unicode_utf8_acceptRanges), ("unicode/utf8.first", laid_unicode_utf8_first)], narrowed := true }
def CodecValuesUptoSaid : Prop := codecValuesUptoRow.holds Tryz.pinned (OpenSpec.upto codecValuesSpec)

/-- 'latticelaw19.CodecChanges', WHERE WHAT IT READS IS OF BULK AT MOST 1048576: true; the input reads as it did. -/
def codecChangesUptoRow : OpenClaim := { program := "ythdfedfholmbmaagreatdoor", sum := "82d50d8ca884adacaf1cfe1325018acb3dc369d8d3235ad16ea7ed64a61ae4d2", func := "lattice/latticelaw19.CodecChanges", spec := "codecChanges", inPlace := ["internal/bytealg.IndexByteString"], unfollowed := true, recurses := true, named := ["unicode/utf8.first", "unicode/utf8.acceptRanges"], loops := true, apart := false, laid := [("unicode/utf8.acceptRanges", laid_unicode_utf8_acceptRanges), ("unicode/utf8.first", laid_unicode_utf8_first)], narrowed := true }
def CodecChangesUptoSaid : Prop := codecChangesUptoRow.holds Tryz.pinned (OpenSpec.upto codecChangesSpec)

/-- 'latticelaw19.CodecBounds', WHERE WHAT IT READS IS OF BULK AT MOST 1048576: true; the input reads as it did. -/
def codecBoundsUptoRow : OpenClaim := { program := "ythdfedfholmbmaagreatdoor", sum := "82d50d8ca884adacaf1cfe1325018acb3dc369d8d3235ad16ea7ed64a61ae4d2", func := "lattice/latticelaw19.CodecBounds", spec := "codecBounds", inPlace := ["internal/bytealg.IndexByteString"], unfollowed := true, recurses := true, named := ["unicode/utf8.first", "unicode/utf8.acceptRanges"], apart := false, laid := [("unicode/utf8.acceptRanges", laid_unicode_utf8_acceptRanges), ("unicode/utf8.first", laid_unicode_utf8_first)], narrowed := true }
def CodecBoundsUptoSaid : Prop := codecBoundsUptoRow.holds Tryz.pinned (OpenSpec.upto codecBoundsSpec)

/-- 'latticelaw19.CodecBack', WHERE WHAT IT READS IS OF BULK AT MOST 1048576: true; the input reads as it did. -/
def codecBackUptoRow : OpenClaim := { program := "ythdfedfholmbmaagreatdoor", sum := "82d50d8ca884adacaf1cfe1325018acb3dc369d8d3235ad16ea7ed64a61ae4d2", func := "lattice/latticelaw19.CodecBack", spec := "codecBack", inPlace := ["internal/bytealg.IndexByteString", "internal/bytealg.abigen_runtime_cmpstring"], unfollowed := true, recurses := true, named := ["unicode/utf8.first", "unicode/utf8.acceptRanges"], loops := true, apart := false, laid := [("unicode/utf8.acceptRanges", laid_unicode_utf8_acceptRanges), ("unicode/utf8.first", laid_unicode_utf8_first)], narrowed := true }
def CodecBackUptoSaid : Prop := codecBackUptoRow.holds Tryz.pinned (OpenSpec.upto codecBackSpec)

/-- 'latticelaw19.CodecDone', WHERE WHAT IT READS IS OF BULK AT MOST 1048576: true; the input reads as it did. -/
def codecDoneUptoRow : OpenClaim := { program := "ythdfedfholmbmaagreatdoor", sum := "82d50d8ca884adacaf1cfe1325018acb3dc369d8d3235ad16ea7ed64a61ae4d2", func := "lattice/latticelaw19.CodecDone", spec := "codecDone", inPlace := ["internal/bytealg.IndexByteString", "slices.overlaps[int64]", "internal/bytealg.abigen_runtime_cmpstring"], unfollowed := true, recurses := true, named := ["unicode/utf8.first", "unicode/utf8.acceptRanges"], loops := true, apart := false, laid := [("unicode/utf8.acceptRanges", laid_unicode_utf8_acceptRanges), ("unicode/utf8.first", laid_unicode_utf8_first)], narrowed := true }
def CodecDoneUptoSaid : Prop := codecDoneUptoRow.holds Tryz.pinned (OpenSpec.upto codecDoneSpec)

end Rows
end Go.Proofs.YthdfedfholmbmaaGreatDoor
