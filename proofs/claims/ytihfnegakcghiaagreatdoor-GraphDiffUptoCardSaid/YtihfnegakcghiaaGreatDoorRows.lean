/-
  NARROWER THAN 'FOR EVERY INPUT', by the rows' own cells (each row's printed sentence says how): GraphKeeps: loops, laid · GraphApply: loops, laid · GraphPlay: loops, laid · GraphNil: loops, laid · GraphChecks: loops, laid · GraphDiff: loops, laid.
  DERIVED. THE GIVEN ROWS OF THIS SEAT. 6 by the template 'for every input the law returns true; each argument reads behind the call as it read before'; 0 by the template 'total and deterministic' (their statements: YtihfnegakcghiaaGreatDoorTotals.lean).
  GIVEN WITH THE SEED: the statements are not yours to turn. If you find one false, say at which input.
  Laid BY PROGRAM, IN A SANDBOX (cutbox-rows.mjs): the forced cells as the released guide's own fill.sh prints them over the translation 15dd152dc360ac2c… (all of the seat's roots in one cut). By AI agents, Wed Nov 11 2026. No macro, syntax, notation, axiom, sorry.
-/
import Derived.Test.YtihfnegakcghiaaGreatDoorChecked
import GoSem.PinnedTables
import GoSem.Claim
import GoSem.ClaimJoined
import GoSem.ClaimMapViews
import Derived.JoinedTies
import Derived.KernelRfl
namespace Go.Proofs.YtihfnegakcghiaaGreatDoor
/- THE CELL 'sum', in the pinned program and in every row, IS THE sha256 OF THE DUMP (.gsa) THAT YtihfnegakcghiaaGreatDoorProg.lean LOADS. Nothing in Lean hashes anything: it is a label: what it is worth is what the hold of that sum in a sandbox is worth. -/
noncomputable def Tryz.pinned : Pinned := { name := "ytihfnegakcghiaagreatdoor", sum := "15dd152dc360ac2c7254640e2b763bfc871e4a705e8a7d880a937e5f92a8df15", checked := Tryz.checked }
namespace Rows
def none {H : Type} : Left H := { results := [], args := [] }

/- WHAT THE LISTED PACKAGE-LEVEL VARIABLES READ AS WHEN THE CALL BEGINS. Each datum BY PROGRAM (the guide's laid-datum.mjs) off the statement by which the dump's own 'gosem.cut.vars' lays the variable. In a bare row this is a premise. The card (YtihfnegakcghiaaGreatDoorCards.lean) ties it to the program's text. -/
def laid_unicode_utf8_acceptRanges {H : Type} : DataW H := .agg [.agg [.lit (.int .u8 128), .lit (.int .u8 191)], .agg [.lit (.int .u8 160), .lit (.int .u8 191)], .agg [.lit (.int .u8 128), .lit (.int .u8 159)], .agg [.lit (.int .u8 144), .lit (.int .u8 191)], .agg [.lit (.int .u8 128), .lit (.int .u8 143)], .agg [.lit (.int .u8 0), .lit (.int .u8 0)], .agg [.lit (.int .u8 0), .lit (.int .u8 0)], .agg [.lit (.int .u8 0), .lit (.int .u8 0)], .agg [.lit (.int .u8 0), .lit (.int .u8 0)], .agg [.lit (.int .u8 0), .lit (.int .u8 0)], .agg [.lit (.int .u8 0), .lit (.int .u8 0)], .agg [.lit (.int .u8 0), .lit (.int .u8 0)], .agg [.lit (.int .u8 0), .lit (.int .u8 0)], .agg [.lit (.int .u8 0), .lit (.int .u8 0)], .agg [.lit (.int .u8 0), .lit (.int .u8 0)], .agg [.lit (.int .u8 0), .lit (.int .u8 0)]]
/-- One of Go's own tables, pinned by name: the form's constant. -/
def laid_unicode_utf8_first : DataW Unit := Go.Pinned.utf8First

/-- 'latticelaw05.GraphKeeps': WHATEVER THE INPUT: true; the input reads as it did. -/
def graphKeepsSpec : ChangeSpec := { name := "graphKeeps", fn := fun _ => fun
  | [d1, d2] => { results := [.lit (.bool true)], args := [d1, d2] }
  | _ => none }
def graphKeepsRow : OpenClaim := { program := "ytihfnegakcghiaagreatdoor", sum := "15dd152dc360ac2c7254640e2b763bfc871e4a705e8a7d880a937e5f92a8df15", func := "lattice/latticelaw05.GraphKeeps", spec := "graphKeeps", inPlace := ["internal/bytealg.IndexByteString", "slices.overlaps[int64]"], unfollowed := true, recurses := true, named := ["unicode/utf8.first", "unicode/utf8.acceptRanges"], loops := true, apart := false, laid := [("unicode/utf8.acceptRanges", laid_unicode_utf8_acceptRanges), ("unicode/utf8.first", laid_unicode_utf8_first)] }
def GraphKeepsSaid : Prop := graphKeepsRow.holds Tryz.pinned (OpenSpec.ofChange graphKeepsSpec)

/-- ITS FALSE NEIGHBOUR: 'it returns false'. Refute it at one input. -/
def graphKeepsWrong : ChangeSpec := { name := "graphKeeps", fn := fun _ => fun
  | [d1, d2] => { results := [.lit (.bool false)], args := [d1, d2] }
  | _ => none }
def GraphKeepsWrongFalsely : Prop := graphKeepsRow.holds Tryz.pinned (OpenSpec.ofChange graphKeepsWrong)

/-- 'latticelaw05.GraphApply': WHATEVER THE INPUT: true; the input reads as it did. -/
def graphApplySpec : ChangeSpec := { name := "graphApply", fn := fun _ => fun
  | [d1, d2] => { results := [.lit (.bool true)], args := [d1, d2] }
  | _ => none }
def graphApplyRow : OpenClaim := { program := "ytihfnegakcghiaagreatdoor", sum := "15dd152dc360ac2c7254640e2b763bfc871e4a705e8a7d880a937e5f92a8df15", func := "lattice/latticelaw05.GraphApply", spec := "graphApply", inPlace := ["internal/bytealg.IndexByteString", "slices.overlaps[int64]"], unfollowed := true, recurses := true, named := ["unicode/utf8.first", "unicode/utf8.acceptRanges"], loops := true, apart := false, laid := [("unicode/utf8.acceptRanges", laid_unicode_utf8_acceptRanges), ("unicode/utf8.first", laid_unicode_utf8_first)] }
def GraphApplySaid : Prop := graphApplyRow.holds Tryz.pinned (OpenSpec.ofChange graphApplySpec)

/-- ITS FALSE NEIGHBOUR: 'it returns false'. Refute it at one input. -/
def graphApplyWrong : ChangeSpec := { name := "graphApply", fn := fun _ => fun
  | [d1, d2] => { results := [.lit (.bool false)], args := [d1, d2] }
  | _ => none }
def GraphApplyWrongFalsely : Prop := graphApplyRow.holds Tryz.pinned (OpenSpec.ofChange graphApplyWrong)

/-- 'latticelaw05.GraphPlay': WHATEVER THE INPUT: true; the input reads as it did. -/
def graphPlaySpec : ChangeSpec := { name := "graphPlay", fn := fun _ => fun
  | [d1, d2] => { results := [.lit (.bool true)], args := [d1, d2] }
  | _ => none }
def graphPlayRow : OpenClaim := { program := "ytihfnegakcghiaagreatdoor", sum := "15dd152dc360ac2c7254640e2b763bfc871e4a705e8a7d880a937e5f92a8df15", func := "lattice/latticelaw05.GraphPlay", spec := "graphPlay", inPlace := ["internal/bytealg.IndexByteString", "slices.overlaps[int64]", "slices.overlaps[lattice/api.Prop]", "slices.overlaps[string]"], unfollowed := true, recurses := true, named := ["unicode/utf8.first", "unicode/utf8.acceptRanges"], loops := true, apart := false, laid := [("unicode/utf8.acceptRanges", laid_unicode_utf8_acceptRanges), ("unicode/utf8.first", laid_unicode_utf8_first)] }
def GraphPlaySaid : Prop := graphPlayRow.holds Tryz.pinned (OpenSpec.ofChange graphPlaySpec)

/-- ITS FALSE NEIGHBOUR: 'it returns false'. Refute it at one input. -/
def graphPlayWrong : ChangeSpec := { name := "graphPlay", fn := fun _ => fun
  | [d1, d2] => { results := [.lit (.bool false)], args := [d1, d2] }
  | _ => none }
def GraphPlayWrongFalsely : Prop := graphPlayRow.holds Tryz.pinned (OpenSpec.ofChange graphPlayWrong)

/-- 'latticelaw05.GraphNil': WHATEVER THE INPUT: true; the input reads as it did. -/
def graphNilSpec : ChangeSpec := { name := "graphNil", fn := fun _ => fun
  | [d] => { results := [.lit (.bool true)], args := [d] }
  | _ => none }
def graphNilRow : OpenClaim := { program := "ytihfnegakcghiaagreatdoor", sum := "15dd152dc360ac2c7254640e2b763bfc871e4a705e8a7d880a937e5f92a8df15", func := "lattice/latticelaw05.GraphNil", spec := "graphNil", inPlace := ["internal/bytealg.IndexByteString", "slices.overlaps[int64]", "slices.overlaps[lattice/api.Prop]", "slices.overlaps[string]"], unfollowed := true, recurses := true, named := ["unicode/utf8.first", "unicode/utf8.acceptRanges"], loops := true, apart := false, laid := [("unicode/utf8.acceptRanges", laid_unicode_utf8_acceptRanges), ("unicode/utf8.first", laid_unicode_utf8_first)] }
def GraphNilSaid : Prop := graphNilRow.holds Tryz.pinned (OpenSpec.ofChange graphNilSpec)

/-- ITS FALSE NEIGHBOUR: 'it returns false'. Refute it at one input. -/
def graphNilWrong : ChangeSpec := { name := "graphNil", fn := fun _ => fun
  | [d] => { results := [.lit (.bool false)], args := [d] }
  | _ => none }
def GraphNilWrongFalsely : Prop := graphNilRow.holds Tryz.pinned (OpenSpec.ofChange graphNilWrong)

/-- 'latticelaw05.GraphChecks': WHATEVER THE INPUT: true; the input reads as it did. -/
def graphChecksSpec : ChangeSpec := { name := "graphChecks", fn := fun _ => fun
  | [d1, d2] => { results := [.lit (.bool true)], args := [d1, d2] }
  | _ => none }
def graphChecksRow : OpenClaim := { program := "ytihfnegakcghiaagreatdoor", sum := "15dd152dc360ac2c7254640e2b763bfc871e4a705e8a7d880a937e5f92a8df15", func := "lattice/latticelaw05.GraphChecks", spec := "graphChecks", inPlace := ["internal/bytealg.IndexByteString", "slices.overlaps[int64]", "internal/bytealg.abigen_runtime_cmpstring"], unfollowed := true, recurses := true, named := ["unicode/utf8.first", "unicode/utf8.acceptRanges"], loops := true, apart := false, laid := [("unicode/utf8.acceptRanges", laid_unicode_utf8_acceptRanges), ("unicode/utf8.first", laid_unicode_utf8_first)] }
def GraphChecksSaid : Prop := graphChecksRow.holds Tryz.pinned (OpenSpec.ofChange graphChecksSpec)

/-- ITS FALSE NEIGHBOUR: 'it returns false'. Refute it at one input. -/
def graphChecksWrong : ChangeSpec := { name := "graphChecks", fn := fun _ => fun
  | [d1, d2] => { results := [.lit (.bool false)], args := [d1, d2] }
  | _ => none }
def GraphChecksWrongFalsely : Prop := graphChecksRow.holds Tryz.pinned (OpenSpec.ofChange graphChecksWrong)

/-- 'latticelaw05.GraphDiff': WHATEVER THE INPUT: true; the input reads as it did. -/
def graphDiffSpec : ChangeSpec := { name := "graphDiff", fn := fun _ => fun
  | [d1, d2] => { results := [.lit (.bool true)], args := [d1, d2] }
  | _ => none }
def graphDiffRow : OpenClaim := { program := "ytihfnegakcghiaagreatdoor", sum := "15dd152dc360ac2c7254640e2b763bfc871e4a705e8a7d880a937e5f92a8df15", func := "lattice/latticelaw05.GraphDiff", spec := "graphDiff", inPlace := ["internal/bytealg.IndexByteString", "slices.overlaps[int64]", "internal/bytealg.abigen_runtime_cmpstring"], unfollowed := true, recurses := true, named := ["unicode/utf8.first", "unicode/utf8.acceptRanges"], loops := true, apart := false, laid := [("unicode/utf8.acceptRanges", laid_unicode_utf8_acceptRanges), ("unicode/utf8.first", laid_unicode_utf8_first)] }
def GraphDiffSaid : Prop := graphDiffRow.holds Tryz.pinned (OpenSpec.ofChange graphDiffSpec)

/-- ITS FALSE NEIGHBOUR: 'it returns false'. Refute it at one input. -/
def graphDiffWrong : ChangeSpec := { name := "graphDiff", fn := fun _ => fun
  | [d1, d2] => { results := [.lit (.bool false)], args := [d1, d2] }
  | _ => none }
def GraphDiffWrongFalsely : Prop := graphDiffRow.holds Tryz.pinned (OpenSpec.ofChange graphDiffWrong)

/- THE SECOND FORM. 'bulk': how many values and letters a reading holds, each counted each time it is reached (what is shared counts as often as it is met; a slice's spare places count too). A statement '..UptoSaid' is the law's where the arguments, and the package variables that the reading takes, are together of bulk at most 1048576: NARROWER than '..Said'. Prove '..Said' where nothing that the law and all that it calls make is longer than what came in: it says more and counts as full. Else prove '..UptoSaid'. A law counts once. -/
mutual
def uptoBulk {H : Type} : DataW H → Nat
  | .lit (.string bytes) => bytes.length + 1
  | .lit _ => 1
  | .nil => 1
  | .ptr d => uptoBulk d + 1
  | .slice elems spare => uptoBulkAll elems + uptoBulkAll spare + 1
  | .agg parts => uptoBulkAll parts + 1
  | .iface _ d => uptoBulk d + 1
  | .map entries => uptoBulkEntries entries + 1
  | .held _ => 1
def uptoBulkAll {H : Type} : List (DataW H) → Nat
  | [] => 0
  | d :: r => uptoBulk d + uptoBulkAll r
def uptoBulkEntries {H : Type} : List (Lit × DataW H) → Nat
  | [] => 0
  | x :: r => uptoBulkEntry x + uptoBulkEntries r
def uptoBulkEntry {H : Type} : Lit × DataW H → Nat
  | (.string bytes, d) => bytes.length + uptoBulk d + 1
  | (_, d) => uptoBulk d + 1
 end
def uptoSmall : (H : Type) → List (DataW H) → Bool := fun _ ds => decide (uptoBulkAll ds ≤ 1048576)
def OpenSpec.upto (s : _root_.Go.ChangeSpec) : _root_.Go.OpenSpec := { _root_.Go.OpenSpec.ofChange s with cond := some uptoSmall }

/-- 'latticelaw05.GraphKeeps', WHERE WHAT IT READS IS OF BULK AT MOST 1048576: true; the input reads as it did. -/
def graphKeepsUptoRow : OpenClaim := { program := "ytihfnegakcghiaagreatdoor", sum := "15dd152dc360ac2c7254640e2b763bfc871e4a705e8a7d880a937e5f92a8df15", func := "lattice/latticelaw05.GraphKeeps", spec := "graphKeeps", inPlace := ["internal/bytealg.IndexByteString", "slices.overlaps[int64]"], unfollowed := true, recurses := true, named := ["unicode/utf8.first", "unicode/utf8.acceptRanges"], loops := true, apart := false, laid := [("unicode/utf8.acceptRanges", laid_unicode_utf8_acceptRanges), ("unicode/utf8.first", laid_unicode_utf8_first)], narrowed := true }
def GraphKeepsUptoSaid : Prop := graphKeepsUptoRow.holds Tryz.pinned (OpenSpec.upto graphKeepsSpec)

/-- 'latticelaw05.GraphApply', WHERE WHAT IT READS IS OF BULK AT MOST 1048576: true; the input reads as it did. -/
def graphApplyUptoRow : OpenClaim := { program := "ytihfnegakcghiaagreatdoor", sum := "15dd152dc360ac2c7254640e2b763bfc871e4a705e8a7d880a937e5f92a8df15", func := "lattice/latticelaw05.GraphApply", spec := "graphApply", inPlace := ["internal/bytealg.IndexByteString", "slices.overlaps[int64]"], unfollowed := true, recurses := true, named := ["unicode/utf8.first", "unicode/utf8.acceptRanges"], loops := true, apart := false, laid := [("unicode/utf8.acceptRanges", laid_unicode_utf8_acceptRanges), ("unicode/utf8.first", laid_unicode_utf8_first)], narrowed := true }
def GraphApplyUptoSaid : Prop := graphApplyUptoRow.holds Tryz.pinned (OpenSpec.upto graphApplySpec)

/-- 'latticelaw05.GraphPlay', WHERE WHAT IT READS IS OF BULK AT MOST 1048576: true; the input reads as it did. -/
def graphPlayUptoRow : OpenClaim := { program := "ytihfnegakcghiaagreatdoor", sum := "15dd152dc360ac2c7254640e2b763bfc871e4a705e8a7d880a937e5f92a8df15", func := "lattice/latticelaw05.GraphPlay", spec := "graphPlay", inPlace := ["internal/bytealg.IndexByteString", "slices.overlaps[int64]", "slices.overlaps[lattice/api.Prop]", "slices.overlaps[string]"], unfollowed := true, recurses := true, named := ["unicode/utf8.first", "unicode/utf8.acceptRanges"], loops := true, apart := false, laid := [("unicode/utf8.acceptRanges", laid_unicode_utf8_acceptRanges), ("unicode/utf8.first", laid_unicode_utf8_first)], narrowed := true }
def GraphPlayUptoSaid : Prop := graphPlayUptoRow.holds Tryz.pinned (OpenSpec.upto graphPlaySpec)

/-- 'latticelaw05.GraphNil', WHERE WHAT IT READS IS OF BULK AT MOST 1048576: true; the input reads as it did. -/
def graphNilUptoRow : OpenClaim := { program := "ytihfnegakcghiaagreatdoor", sum := "15dd152dc360ac2c7254640e2b763bfc871e4a705e8a7d880a937e5f92a8df15", func := "lattice/latticelaw05.GraphNil", spec := "graphNil", inPlace := ["internal/bytealg.IndexByteString", "slices.overlaps[int64]", "slices.overlaps[lattice/api.Prop]", "slices.overlaps[string]"], unfollowed := true, recurses := true, named := ["unicode/utf8.first", "unicode/utf8.acceptRanges"], loops := true, apart := false, laid := [("unicode/utf8.acceptRanges", laid_unicode_utf8_acceptRanges), ("unicode/utf8.first", laid_unicode_utf8_first)], narrowed := true }
def GraphNilUptoSaid : Prop := graphNilUptoRow.holds Tryz.pinned (OpenSpec.upto graphNilSpec)

/-- 'latticelaw05.GraphChecks', WHERE WHAT IT READS IS OF BULK AT MOST 1048576: true; the input reads as it did. -/
def graphChecksUptoRow : OpenClaim := { program := "ytihfnegakcghiaagreatdoor", sum := "15dd152dc360ac2c7254640e2b763bfc871e4a705e8a7d880a937e5f92a8df15", func := "lattice/latticelaw05.GraphChecks", spec := "graphChecks", inPlace := ["internal/bytealg.IndexByteString", "slices.overlaps[int64]", "internal/bytealg.abigen_runtime_cmpstring"], unfollowed := true, recurses := true, named := ["unicode/utf8.first", "unicode/utf8.acceptRanges"], loops := true, apart := false, laid := [("unicode/utf8.acceptRanges", laid_unicode_utf8_acceptRanges), ("unicode/utf8.first", laid_unicode_utf8_first)], narrowed := true }
def GraphChecksUptoSaid : Prop := graphChecksUptoRow.holds Tryz.pinned (OpenSpec.upto graphChecksSpec)

/-- 'latticelaw05.GraphDiff', WHERE WHAT IT READS IS OF BULK AT MOST 1048576: true; the input reads as it did. -/
def graphDiffUptoRow : OpenClaim := { program := "ytihfnegakcghiaagreatdoor", sum := "15dd152dc360ac2c7254640e2b763bfc871e4a705e8a7d880a937e5f92a8df15", func := "lattice/latticelaw05.GraphDiff", spec := "graphDiff", inPlace := ["internal/bytealg.IndexByteString", "slices.overlaps[int64]", "internal/bytealg.abigen_runtime_cmpstring"], unfollowed := true, recurses := true, named := ["unicode/utf8.first", "unicode/utf8.acceptRanges"], loops := true, apart := false, laid := [("unicode/utf8.acceptRanges", laid_unicode_utf8_acceptRanges), ("unicode/utf8.first", laid_unicode_utf8_first)], narrowed := true }
def GraphDiffUptoSaid : Prop := graphDiffUptoRow.holds Tryz.pinned (OpenSpec.upto graphDiffSpec)

end Rows
end Go.Proofs.YtihfnegakcghiaaGreatDoor
