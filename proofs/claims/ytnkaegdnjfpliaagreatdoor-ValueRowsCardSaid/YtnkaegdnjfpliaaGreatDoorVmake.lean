/- Values of no parts: Null, Bool, Int, String. Keys held against keys. -/
import Derived.Test.YtnkaegdnjfpliaaGreatDoorVcmp2
namespace Go.Proofs.YtnkaegdnjfpliaaGreatDoor
set_option linter.unusedSimpArgs false
set_option linter.unusedVariables false
open Go.RowKit

/-- A value without keys and list, as it lies. -/
def flatX (k : Int) (b : Bool) (n : Int) (t : List UInt8) : Array Value := #[.int .i64 k, .bool b, .int .i64 n, .string (strB t), .slice none 0 0, .slice none 0 0]
theorem flatX_rd (w : World) (k : Int) (b : Bool) (n : Int) (t : List UInt8) (ht : t.length ≤ 140737488355328) : VRd w (.mk k b n t [] []) (flatX k b n t) :=
  VRd_iff.2 ⟨none, 0, none, 0, rfl, ht, ⟨Nat.le_refl _, by simp, fun _ => rfl, fun s hs => by simp at hs, fun ad h => by cases h⟩, ⟨Nat.le_refl _, by simp, fun _ => rfl⟩, fun ad h => by cases h⟩
set_option maxRecDepth 100000 in
theorem null_any (w : World) : Calls Tryz.prog 41 #[] w fun e w' => e = .returned (.agg (flatX 0 false 0 [])) ∧ Below w.heap.size w w' := by
  have HB := Lib.hid (below_new (w := w) (.cells #[.int .i64 0, .bool false, .int .i64 0, .string ⟨#[]⟩, .slice none 0 0, .slice none 0 0] 26))
  go_enter Tryz.func41, Tryz.ntmps41
  go_wp2
  refine bodyPost_ret (v := .agg (flatX 0 false 0 [])) (by simp [results, Tryz.results41, go_sem, flatX, strB]) rfl ⟨rfl, HB.out⟩
set_option maxRecDepth 100000 in
theorem bool_any (b : Bool) (w : World) : Calls Tryz.prog 42 #[.bool b] w fun e w' => e = .returned (.agg (flatX 1 b 0 [])) ∧ Below w.heap.size w w' := by
  have HB := Lib.hid (below_new (w := w) (.cells #[.int .i64 1, .bool b, .int .i64 0, .string ⟨#[]⟩, .slice none 0 0, .slice none 0 0] 26))
  go_enter Tryz.func42, Tryz.ntmps42
  go_wp2
  refine bodyPost_ret (v := .agg (flatX 1 b 0 [])) (by simp [results, Tryz.results42, go_sem, flatX, strB]) rfl ⟨rfl, HB.out⟩
set_option maxRecDepth 100000 in
theorem int_any (n : Int) (w : World) : Calls Tryz.prog 43 #[.int .i64 n] w fun e w' => e = .returned (.agg (flatX 2 false n [])) ∧ Below w.heap.size w w' := by
  have HB := Lib.hid (below_new (w := w) (.cells #[.int .i64 2, .bool false, .int .i64 n, .string ⟨#[]⟩, .slice none 0 0, .slice none 0 0] 26))
  go_enter Tryz.func43, Tryz.ntmps43
  go_wp2
  refine bodyPost_ret (v := .agg (flatX 2 false n [])) (by simp [results, Tryz.results43, go_sem, flatX, strB]) rfl ⟨rfl, HB.out⟩
set_option maxRecDepth 100000 in
theorem string_any (t : List UInt8) (w : World) : Calls Tryz.prog 44 #[.string (strB t)] w fun e w' => e = .returned (.agg (flatX 3 false 0 t)) ∧ Below w.heap.size w w' := by
  have HB := Lib.hid (below_new (w := w) (.cells #[.int .i64 3, .bool false, .int .i64 0, .string (strB t), .slice none 0 0, .slice none 0 0] 26))
  go_enter Tryz.func44, Tryz.ntmps44
  go_wp2
  refine bodyPost_ret (v := .agg (flatX 3 false 0 t)) (by simp [results, Tryz.results44, go_sem, flatX, strB]) rfl ⟨rfl, HB.out⟩
theorem strB_map_inj {l m : List (List UInt8)} : l.map strB = m.map strB ↔ l = m := by
  constructor
  · intro h
    induction l generalizing m with
    | nil => cases m with
      | nil => rfl
      | cons => simp at h
    | cons a l ih => cases m with
      | nil => simp at h
      | cons b m =>
        simp only [List.map_cons, List.cons.injEq] at h
        rw [strB_inj.1 h.1, ih h.2]
  · rintro rfl; rfl
/-- Keys held against keys. -/
theorem eqkeys_any {w : World} {p1 p2 : Option Addr} {c1 c2 : Nat} {l1 l2 : List (List UInt8)} (h1 : RdS w p1 c1 l1) (h2 : RdS w p2 c2 l2) :
    Calls Tryz.prog 99 #[.slice p1 l1.length c1, .slice p2 l2.length c2] w fun e w' => e = .returned (.bool (decide (l1 = l2))) ∧ Below w.heap.size w w' := by
  by_cases hl : l1.length = l2.length
  · cases l1 with
    | nil =>
      obtain rfl : l2 = [] := List.eq_nil_of_length_eq_zero (by simpa using hl.symm)
      refine (Tryz.slices_Equal_string_empty p1 p2 c1 0 c2 w (by omega)).mono ?_
      rintro e w' ⟨rfl, hw⟩
      subst hw
      exact ⟨by simp, Below.refl _ _⟩
    | cons a r =>
      cases l2 with
      | nil => simp at hl
      | cons a' r' =>
        obtain ⟨b1, o1, rfl, _⟩ := h1.get (i := 0) (by simp)
        obtain ⟨b2, o2, rfl, _⟩ := h2.get (i := 0) (by simp)
        have cells : ∀ {b o c : Nat} {l : List (List UInt8)}, RdS w (some ⟨b, o, none⟩) c l → ∀ j, j < (l.map strB).length → w.cell? ⟨b, o + j, none⟩ = some (.string ((l.map strB).getD j ByteArray.empty)) := by
          intro b o c l h j hj
          have hj' : j < l.length := by simpa using hj
          have hc := (h.2.2.2.2 _ rfl).2 j l[j] (List.getElem?_eq_getElem hj')
          rw [hc]
          simp [List.getD, hj']
        have h := Tryz.slices_Equal_string b1 o1 (a :: r).length c1 b2 o2 (a' :: r').length c2 ((a :: r).map strB) ((a' :: r').map strB) w (by simp) (by simp) (by have := h1.1; have := h1.2.1; omega) (by have := h2.1; have := h2.2.1; omega) (cells h1) (cells h2)
        refine h.mono ?_
        rintro e w' ⟨rfl, q, rfl⟩
        refine ⟨ret_bool ?_, below_drewN _ q⟩
        rw [List.take_of_length_le (by simp), List.take_of_length_le (by simp), Bool.eq_iff_iff, decide_eq_true_iff, decide_eq_true_iff, strB_map_inj]
  · refine (Tryz.slices_Equal_string_lens p1 p2 l1.length c1 l2.length c2 w hl).mono ?_
    rintro e w' ⟨rfl, hw⟩
    subst hw
    exact ⟨ret_bool (by symm; rw [decide_eq_false_iff_not]; exact fun e => hl (by rw [e])), Below.refl _ _⟩
end Go.Proofs.YtnkaegdnjfpliaaGreatDoor
