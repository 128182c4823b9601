/- The book: what is looked up on a disk. -/
import Derived.Test.YtmgajgeoibbmjaaIter
namespace Go.Proofs.Ytmgajgeoibbmjaa
open Go.RowKit

theorem results_cell_tmp_row {P : Program} {fn : Func} {p u : Tmp} {ty : TypeId} (h : fn.results = #[.cell p ty, .tmp u]) (tmps : Array Value) (w : World) (g : Nat) (t : TypeId) (cs : Array Value) (fr : Nat × Nat) (d : TypeDesc)
    (hp : tmps.getD p undef = .pointer (some ⟨g, 0, none⟩)) (hg : w.heap[g]? = some (.cells cs t fr))
    (hu : P.underlying ty = some d) (hd : (match d with | .struct _ | .array _ _ => true | _ => false) = true) (hi : (P.info? ty).map (·.size) = some cs.size) :
    (results fn tmps).run P w = .ok (.tuple #[.agg cs, tmps.getD u undef]) w := by
  rw [results_cell_tmp h, hp]
  simp [asAddr, Result.andThen, run_loadVar_row w g t ty cs fr d hg hu hd hi]

/-- A state's cells. -/
def stC (n : Int) (v : Value) (b : Bool) : Array Value := #[.int .i64 n, v, .bool b]
/-- No state. -/
def st0 : Value := .agg (stC 0 (.slice none 0 0) false)
/-! ### the head with the highest number -/
def better (b x : Int × Int) : Int × Int := if b.1 < x.1 then x else b
def best (hs : List (Int × Int)) : Int × Int := hs.foldl better (0, 0)
theorem best_snoc (hs : List (Int × Int)) (x : Int × Int) : best (hs ++ [x]) = better (best hs) x := by simp [best]
theorem best_mem (hs : List (Int × Int)) : best hs = (0, 0) ∨ best hs ∈ hs := by
  have key : ∀ (hs : List (Int × Int)) (b : Int × Int), hs.foldl better b = b ∨ hs.foldl better b ∈ hs := by
    intro hs
    induction hs with
    | nil => exact fun b => .inl rfl
    | cons x r ih =>
      intro b
      rcases ih (better b x) with h | h
      · rw [List.foldl_cons, h]
        unfold better
        split
        · exact .inr (by simp)
        · exact .inl rfl
      · exact .inr (by rw [List.foldl_cons]; exact List.mem_cons_of_mem _ h)
  exact key hs _
theorem mem_upTo {α : Type} {f : Nat → Option α} {k : Nat} {x : α} (h : x ∈ upTo f k) : ∃ i, i < k ∧ f i = some x := by
  simp only [upTo, List.mem_filterMap, List.mem_range] at h
  exact h
theorem headOf_some {d : DM} {k : Nat} {x : Int × Int} (h : headOf d k = some x) : 1 ≤ x.1 ∧ x.1 ≤ 4611686018427387904 ∧ x.1.tmod 2 = (k : Int) ∧ 0 ≤ x.2 ∧ x.2 ≤ (hf d : Int) * 512 := by
  unfold headOf at h
  split at h
  · rename_i hc
    cases h
    simp only [headOk, Bool.and_eq_true, decide_eq_true_eq, beq_iff_eq] at hc
    exact ⟨hc.1.1.1.1.1, hc.1.1.1.1.2, hc.1.1.1.2, hc.1.1.2, hc.1.2⟩
  · cases h
theorem best_heads (d : DM) (k : Nat) : best (heads d k) = (0, 0) ∨ (1 ≤ (best (heads d k)).1 ∧ (best (heads d k)).1 ≤ 4611686018427387904 ∧ 0 ≤ (best (heads d k)).2 ∧ (best (heads d k)).2 ≤ (hf d : Int) * 512) := by
  rcases best_mem (heads d k) with h | h
  · exact .inl h
  · obtain ⟨i, _, hi⟩ := mem_upTo h
    have := headOf_some hi
    exact .inr ⟨this.1, this.2.1, this.2.2.2.1, this.2.2.2.2⟩
/-- What a disk holds. -/
def looked (d : DM) : Option (Int × List UInt8) :=
  if (best (heads d 2)).1 = 0 then none else some ((best (heads d 2)).1, (readB d (plc d (best (heads d 2)).1.toNat) (hf d)).take (best (heads d 2)).2.toNat)

end Go.Proofs.Ytmgajgeoibbmjaa
