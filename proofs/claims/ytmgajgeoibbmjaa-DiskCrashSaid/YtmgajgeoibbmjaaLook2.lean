/- The book: look, on a disk that is great enough. -/
import Derived.Test.YtmgajgeoibbmjaaLook
namespace Go.Proofs.Ytmgajgeoibbmjaa
open Go.RowKit

/-- What `look` answers. -/
def LookEnd (w : World) (d : DM) (e : Ending) (w' : World) : Prop :=
  Below w.heap.size w w' ∧ match looked d with
    | none => e = .returned (.tuple #[st0, .int .i64 310])
    | some (n, l) => ∃ v, e = .returned (.tuple #[.agg (stC n v false), .int .i64 0]) ∧ OwnB w' v l ∧ (∀ g, v.ownBlock = some g → w.heap.size ≤ g)

end Go.Proofs.Ytmgajgeoibbmjaa
