/-
  No cell of these rows narrows 'for every input' (looked for: loops, veiled, ifaces, maps, wideKeys, modest, calm, conditions, laid).
  DERIVED. THE GIVEN ROWS OF THIS SEAT. 4 by the template 'for every input the law returns true; each argument reads behind the call as it read before'; 0 by the template 'total and deterministic' (their statements: YtfpmdagchbbkcaaTotals.lean).
  GIVEN WITH THE SEED: the statements are not yours to turn. If you find one false, say at which input.
  Laid BY PROGRAM, IN A SANDBOX (cutbox-rows.mjs): the forced cells as the released guide's own fill.sh prints them over the translation 8b6ec3940c350706… (all of the seat's roots in one cut). By AI agents, Wed Nov 11 2026. No macro, syntax, notation, axiom, sorry.
-/
import Derived.Test.YtfpmdagchbbkcaaChecked
import GoSem.Claim
import GoSem.ClaimJoined
import GoSem.ClaimMapViews
import Derived.JoinedTies
import Derived.KernelRfl
namespace Go.Proofs.Ytfpmdagchbbkcaa
/- THE CELL 'sum', in the pinned program and in every row, IS THE sha256 OF THE DUMP (.gsa) THAT YtfpmdagchbbkcaaProg.lean LOADS. Nothing in Lean hashes anything: it is a label: what it is worth is what the hold of that sum in a sandbox is worth. -/
noncomputable def Try.pinned : Pinned := { name := "ytfpmdagchbbkcaa", sum := "8b6ec3940c350706b901c350e9ca001eb4ab61b0bed379ec2d495aab3bbd7d84", checked := Try.checked }
namespace Rows
def none {H : Type} : Left H := { results := [], args := [] }

/-- 'latticelaw21.BookAny': WHATEVER THE INPUT: true; the input reads as it did. -/
def bookAnySpec : ChangeSpec := { name := "bookAny", fn := fun _ => fun
  | [d1, d2, d3] => { results := [.lit (.bool true)], args := [d1, d2, d3] }
  | _ => none }
def bookAnyRow : OpenClaim := { program := "ytfpmdagchbbkcaa", sum := "8b6ec3940c350706b901c350e9ca001eb4ab61b0bed379ec2d495aab3bbd7d84", func := "lattice/latticelaw21.BookAny", spec := "bookAny", inPlace := ["maps.clone"], unfollowed := true, recurses := true, apart := false }
def BookAnySaid : Prop := bookAnyRow.holds Try.pinned (OpenSpec.ofChange bookAnySpec)

/-- ITS FALSE NEIGHBOUR: 'it returns false'. Refute it at one input. -/
def bookAnyWrong : ChangeSpec := { name := "bookAny", fn := fun _ => fun
  | [d1, d2, d3] => { results := [.lit (.bool false)], args := [d1, d2, d3] }
  | _ => none }
def BookAnyWrongFalsely : Prop := bookAnyRow.holds Try.pinned (OpenSpec.ofChange bookAnyWrong)

/-- 'latticelaw21.BookNil': WHATEVER THE INPUT: true; the input reads as it did. -/
def bookNilSpec : ChangeSpec := { name := "bookNil", fn := fun _ => fun
  | [d] => { results := [.lit (.bool true)], args := [d] }
  | _ => none }
def bookNilRow : OpenClaim := { program := "ytfpmdagchbbkcaa", sum := "8b6ec3940c350706b901c350e9ca001eb4ab61b0bed379ec2d495aab3bbd7d84", func := "lattice/latticelaw21.BookNil", spec := "bookNil", inPlace := ["maps.clone"], unfollowed := true, recurses := true, apart := false }
def BookNilSaid : Prop := bookNilRow.holds Try.pinned (OpenSpec.ofChange bookNilSpec)

/-- ITS FALSE NEIGHBOUR: 'it returns false'. Refute it at one input. -/
def bookNilWrong : ChangeSpec := { name := "bookNil", fn := fun _ => fun
  | [d] => { results := [.lit (.bool false)], args := [d] }
  | _ => none }
def BookNilWrongFalsely : Prop := bookNilRow.holds Try.pinned (OpenSpec.ofChange bookNilWrong)

/-- 'latticelaw21.BookCuts': WHATEVER THE INPUT: true; the input reads as it did. -/
def bookCutsSpec : ChangeSpec := { name := "bookCuts", fn := fun _ => fun
  | [d1, d2, d3] => { results := [.lit (.bool true)], args := [d1, d2, d3] }
  | _ => none }
def bookCutsRow : OpenClaim := { program := "ytfpmdagchbbkcaa", sum := "8b6ec3940c350706b901c350e9ca001eb4ab61b0bed379ec2d495aab3bbd7d84", func := "lattice/latticelaw21.BookCuts", spec := "bookCuts", inPlace := ["maps.clone"], unfollowed := true, recurses := true, apart := false }
def BookCutsSaid : Prop := bookCutsRow.holds Try.pinned (OpenSpec.ofChange bookCutsSpec)

/-- ITS FALSE NEIGHBOUR: 'it returns false'. Refute it at one input. -/
def bookCutsWrong : ChangeSpec := { name := "bookCuts", fn := fun _ => fun
  | [d1, d2, d3] => { results := [.lit (.bool false)], args := [d1, d2, d3] }
  | _ => none }
def BookCutsWrongFalsely : Prop := bookCutsRow.holds Try.pinned (OpenSpec.ofChange bookCutsWrong)

/-- 'latticelaw21.BookPlay': WHATEVER THE INPUT: true; the input reads as it did. -/
def bookPlaySpec : ChangeSpec := { name := "bookPlay", fn := fun _ => fun
  | [d1, d2] => { results := [.lit (.bool true)], args := [d1, d2] }
  | _ => none }
def bookPlayRow : OpenClaim := { program := "ytfpmdagchbbkcaa", sum := "8b6ec3940c350706b901c350e9ca001eb4ab61b0bed379ec2d495aab3bbd7d84", func := "lattice/latticelaw21.BookPlay", spec := "bookPlay", inPlace := ["maps.clone"], unfollowed := true, recurses := true, apart := false }
def BookPlaySaid : Prop := bookPlayRow.holds Try.pinned (OpenSpec.ofChange bookPlaySpec)

/-- ITS FALSE NEIGHBOUR: 'it returns false'. Refute it at one input. -/
def bookPlayWrong : ChangeSpec := { name := "bookPlay", fn := fun _ => fun
  | [d1, d2] => { results := [.lit (.bool false)], args := [d1, d2] }
  | _ => none }
def BookPlayWrongFalsely : Prop := bookPlayRow.holds Try.pinned (OpenSpec.ofChange bookPlayWrong)

/- THE SECOND FORM. 'bulk': how many values and letters a reading holds, each counted each time it is reached (what is shared counts as often as it is met; a slice's spare places count too). A statement '..UptoSaid' is the law's where the arguments, and the package variables that the reading takes, are together of bulk at most 1048576: NARROWER than '..Said'. Prove '..Said' where nothing that the law and all that it calls make is longer than what came in: it says more and counts as full. Else prove '..UptoSaid'. A law counts once. -/
mutual
def uptoBulk {H : Type} : DataW H → Nat
  | .lit (.string bytes) => bytes.length + 1
  | .lit _ => 1
  | .nil => 1
  | .ptr d => uptoBulk d + 1
  | .slice elems spare => uptoBulkAll elems + uptoBulkAll spare + 1
  | .agg parts => uptoBulkAll parts + 1
  | .iface _ d => uptoBulk d + 1
  | .map entries => uptoBulkEntries entries + 1
  | .held _ => 1
def uptoBulkAll {H : Type} : List (DataW H) → Nat
  | [] => 0
  | d :: r => uptoBulk d + uptoBulkAll r
def uptoBulkEntries {H : Type} : List (Lit × DataW H) → Nat
  | [] => 0
  | x :: r => uptoBulkEntry x + uptoBulkEntries r
def uptoBulkEntry {H : Type} : Lit × DataW H → Nat
  | (.string bytes, d) => bytes.length + uptoBulk d + 1
  | (_, d) => uptoBulk d + 1
 end
def uptoSmall : (H : Type) → List (DataW H) → Bool := fun _ ds => decide (uptoBulkAll ds ≤ 1048576)
def OpenSpec.upto (s : _root_.Go.ChangeSpec) : _root_.Go.OpenSpec := { _root_.Go.OpenSpec.ofChange s with cond := some uptoSmall }

/-- 'latticelaw21.BookAny', WHERE WHAT IT READS IS OF BULK AT MOST 1048576: true; the input reads as it did. -/
def bookAnyUptoRow : OpenClaim := { program := "ytfpmdagchbbkcaa", sum := "8b6ec3940c350706b901c350e9ca001eb4ab61b0bed379ec2d495aab3bbd7d84", func := "lattice/latticelaw21.BookAny", spec := "bookAny", inPlace := ["maps.clone"], unfollowed := true, recurses := true, apart := false, narrowed := true }
def BookAnyUptoSaid : Prop := bookAnyUptoRow.holds Try.pinned (OpenSpec.upto bookAnySpec)

/-- 'latticelaw21.BookNil', WHERE WHAT IT READS IS OF BULK AT MOST 1048576: true; the input reads as it did. -/
def bookNilUptoRow : OpenClaim := { program := "ytfpmdagchbbkcaa", sum := "8b6ec3940c350706b901c350e9ca001eb4ab61b0bed379ec2d495aab3bbd7d84", func := "lattice/latticelaw21.BookNil", spec := "bookNil", inPlace := ["maps.clone"], unfollowed := true, recurses := true, apart := false, narrowed := true }
def BookNilUptoSaid : Prop := bookNilUptoRow.holds Try.pinned (OpenSpec.upto bookNilSpec)

/-- 'latticelaw21.BookCuts', WHERE WHAT IT READS IS OF BULK AT MOST 1048576: true; the input reads as it did. -/
def bookCutsUptoRow : OpenClaim := { program := "ytfpmdagchbbkcaa", sum := "8b6ec3940c350706b901c350e9ca001eb4ab61b0bed379ec2d495aab3bbd7d84", func := "lattice/latticelaw21.BookCuts", spec := "bookCuts", inPlace := ["maps.clone"], unfollowed := true, recurses := true, apart := false, narrowed := true }
def BookCutsUptoSaid : Prop := bookCutsUptoRow.holds Try.pinned (OpenSpec.upto bookCutsSpec)

/-- 'latticelaw21.BookPlay', WHERE WHAT IT READS IS OF BULK AT MOST 1048576: true; the input reads as it did. -/
def bookPlayUptoRow : OpenClaim := { program := "ytfpmdagchbbkcaa", sum := "8b6ec3940c350706b901c350e9ca001eb4ab61b0bed379ec2d495aab3bbd7d84", func := "lattice/latticelaw21.BookPlay", spec := "bookPlay", inPlace := ["maps.clone"], unfollowed := true, recurses := true, apart := false, narrowed := true }
def BookPlayUptoSaid : Prop := bookPlayUptoRow.holds Try.pinned (OpenSpec.upto bookPlaySpec)

end Rows
end Go.Proofs.Ytfpmdagchbbkcaa
