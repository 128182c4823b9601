/- Strings as bytes. -/
import Derived.Test.YtmgajgeoibbmjaaBook
import Derived.Laws.IdiomStrings
namespace Go.Proofs.Ytmgajgeoibbmjaa
open Go.RowKit

/-- A string's bytes. -/
abbrev sl (s : ByteArray) : List UInt8 := s.data.toList
theorem sl_length (s : ByteArray) : (sl s).length = s.size := by unfold sl; rw [Array.length_toList]; rfl
theorem sl_toList (s : ByteArray) : s.toList = sl s := ByteArray.toList_eq s

/-- A string as bytes of its own. -/
theorem run_cvs (w : World) (s : ByteArray) (hs : s.size ≤ 140737488351232) : ∃ c W', (convert 9 35 (.string s)).run Try.prog w = .ok (.slice (some ⟨w.heap.size, 0, none⟩) s.size c) W' ∧
    Below w.heap.size w W' ∧ RdB W' (.slice (some ⟨w.heap.size, 0, none⟩) s.size c) (sl s) := by
  have h := run_bytes_of_string (P := Try.prog) w 9 35 5 s Try.underlying9 Try.underlying35 Try.underlying5
  have hge := grownCap_ge w s.size 0 5
  have hle := grownCap_le_maxLen w s.size 0 5 (by unfold maxLen; omega)
  have hrow : ∀ (i : Nat) (b : UInt8), (sl s)[i]? = some b → (bytesRow s (grownCap w s.size 0 5))[i]? = some (.int .u8 (b.toNat : Int)) := by
    intro i b hi
    have hlt : i < s.data.size := by simpa using (List.getElem?_eq_some_iff.1 hi).1
    unfold bytesRow
    rw [Array.getElem?_append_left (by simpa using hlt), Array.getElem?_map]
    have : s.data[i]? = some b := by simpa [sl] using hi
    rw [this]; rfl
  generalize grownCap w s.size 0 5 = c at *
  generalize bytesRow s c = R at *
  refine ⟨c, _, h, ⟨rfl, rfl, rfl, by simp, fun b hb => ?_⟩, some ⟨w.heap.size, 0, none⟩, c, by rw [sl_length], ⟨by rw [sl_length]; exact hge, hle, fun h => by cases h⟩, fun ad had => ?_⟩
  · rw [Below.heap_alloc _ _ _ (by simpa using hb)]; rfl
  · cases had
    refine ⟨fun _ => rfl, fun i b hi => ?_⟩
    have hN : (w.drew.alloc (.cells R 5 (R.size, R.size + 1))).heap[w.heap.size]? = some (.cells R 5 (R.size, R.size + 1)) := heap_alloc_new w.drew _
    refine cellOf hN ?_
    rw [Nat.zero_add]
    exact hrow i b hi
end Go.Proofs.Ytmgajgeoibbmjaa
