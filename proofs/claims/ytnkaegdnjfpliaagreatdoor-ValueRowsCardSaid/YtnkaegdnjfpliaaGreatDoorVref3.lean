/- The document's bare. -/
import Derived.Test.YtnkaegdnjfpliaaGreatDoorVref2
namespace Go.Proofs.YtnkaegdnjfpliaaGreatDoor
set_option linter.unusedSimpArgs false
set_option linter.unusedVariables false
open Go.RowKit

theorem isE {α : Type} (l : List α) : l.isEmpty = ((l.length : Int) == 0) := by cases l <;> simp <;> omega
set_option maxRecDepth 100000 in
set_option maxHeartbeats 8000000 in
theorem bareR_any {v : V} {w : World} {x : Array Value} (hx : VRd w v x) : Calls Tryz.prog 101 #[.agg x] w fun e w' => e = .returned (.bool (bareV v)) ∧ Below w.heap.size w w' := by
  have hT := OneB.start w x
  cases v with
  | mk k b n t ks l =>
    obtain ⟨pk, ck, pl, cl, rfl, htx, hk1, hl1⟩ := VRd_iff.1 hx
    have zt : (strB t).size = t.length := rfl
    have z1 : (ks.length : Int) ≤ 140737488355328 := by have := hk1.1; have := hk1.2.1; omega
    have z2 : (l.length : Int) ≤ 140737488355328 := by have := hl1.1.2.1; omega
    have hb : bareV (.mk k b n t ks l) = ((k == 1 || !b) && (k == 2 || k == 6 || k == 7 || n == 0) && (k == 3 || t.isEmpty) && (k == 5 || ks.isEmpty) && (k == 4 || k == 5 || l.isEmpty)) := rfl
    rw [hb]
    have HT := Lib.hid hT
    clear hx hk1 hl1 hT hb htx
    go_enter Tryz.func101, Tryz.ntmps101
    go_wp2
    all_goals
      go_ret
      refine ⟨ret_bool ?_, below_new _⟩
      try rw [isE ks]
      try rw [isE l]
      simp_all [strB_toList]
end Go.Proofs.YtnkaegdnjfpliaaGreatDoor
