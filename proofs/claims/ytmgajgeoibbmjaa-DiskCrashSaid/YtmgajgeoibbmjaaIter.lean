/- The book: the iterator over the heads that count. -/
import Derived.Test.YtmgajgeoibbmjaaCount
namespace Go.Proofs.Ytmgajgeoibbmjaa
open Go.RowKit

theorem blkAt_length {d : DM} (h : d.Ok) (k : Nat) : (blkAt d k).length = 512 := seen_length h k
theorem read_one {w : World} {F : Nat → Prop} {a : Nat} {d : DM} (hd : Disk w F a d) (k : Nat) (hk : k + 1 ≤ d.size) :
    Calls Try.prog 12 #[.pointer (some ⟨a, 0, none⟩), .int .i64 (k : Int), .int .i64 1] w fun e w' =>
      ∃ a1 c1, e = .returned (.tuple #[.slice a1 512 c1, .int .i64 0]) ∧ RdB w' (.slice a1 512 c1) (blkAt d k) ∧ Below w.heap.size w w' := by
  refine (read_ok hd k 1 hk).mono ?_
  rintro e w' ⟨v, rfl, hown, hb, hg⟩
  rw [readB_one] at hown
  obtain ⟨a1, c1, hs⟩ := hown.shape
  rw [blkAt_length hd.1] at hs
  subst hs
  exact ⟨a1, c1, rfl, hown.rd, hb⟩

end Go.Proofs.Ytmgajgeoibbmjaa
