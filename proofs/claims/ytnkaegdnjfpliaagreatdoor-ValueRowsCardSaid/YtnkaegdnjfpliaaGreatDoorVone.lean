/- The smallest functions of value, and of cmp. -/
import Derived.Test.YtnkaegdnjfpliaaGreatDoorVmem
import Derived.Test.YtnkaegdnjfpliaaGreatDoorTxt
namespace Go.Proofs.YtnkaegdnjfpliaaGreatDoor
set_option linter.unusedSimpArgs false
set_option linter.unusedVariables false
open Go.RowKit

set_option maxHeartbeats 1000000 in
theorem rank_any (k : Int) (w : World) : Calls Tryz.prog 94 #[.int .i64 k] w fun e w' => e = .returned (.int .i64 (rankV k)) ∧ w = w' := by
  by_cases e0 : k = 0
  · subst e0; go_enter Tryz.func94, Tryz.ntmps94; go_wp2; go_ret; exact ⟨rfl, rfl⟩
  by_cases e2 : k = 2
  · subst e2; go_enter Tryz.func94, Tryz.ntmps94; go_wp2; go_ret; exact ⟨rfl, rfl⟩
  by_cases e1 : k = 1
  · subst e1; go_enter Tryz.func94, Tryz.ntmps94; go_wp2; go_ret; exact ⟨rfl, rfl⟩
  by_cases e3 : k = 3
  · subst e3; go_enter Tryz.func94, Tryz.ntmps94; go_wp2; go_ret; exact ⟨rfl, rfl⟩
  by_cases e4 : k = 4
  · subst e4; go_enter Tryz.func94, Tryz.ntmps94; go_wp2; go_ret; exact ⟨rfl, rfl⟩
  by_cases e7 : k = 7
  · subst e7; go_enter Tryz.func94, Tryz.ntmps94; go_wp2; go_ret; exact ⟨rfl, rfl⟩
  by_cases e6 : k = 6
  · subst e6; go_enter Tryz.func94, Tryz.ntmps94; go_wp2; go_ret; exact ⟨rfl, rfl⟩
  have hr : rankV k = 0 := by simp [rankV, e0, e1, e2, e3, e4, e6, e7]
  rw [hr]
  have d0 : (k == 0) = false := by simpa using e0
  have d1 : (k == 1) = false := by simpa using e1
  have d2 : (k == 2) = false := by simpa using e2
  have d3 : (k == 3) = false := by simpa using e3
  have d4 : (k == 4) = false := by simpa using e4
  have d6 : (k == 6) = false := by simpa using e6
  have d7 : (k == 7) = false := by simpa using e7
  clear e0 e1 e2 e3 e4 e6 e7 hr
  go_enter Tryz.func94, Tryz.ntmps94
  go_wp2
  go_ret
  exact ⟨rfl, rfl⟩
/-- A truth, as it is told. -/
def truthN (b : Bool) : Int := if b then 2 else 0
theorem truth_any (b : Bool) (w : World) : Calls Tryz.prog 66 #[.bool b] w fun e w' => e = .returned (.int .i64 (truthN b)) ∧ w = w' := by
  cases b <;> (go_enter Tryz.func66, Tryz.ntmps66; go_wp2; go_ret; exact ⟨rfl, rfl⟩)
theorem truthR_any (b : Bool) (w : World) : Calls Tryz.prog 64 #[.bool b] w fun e w' => e = .returned (.int .i64 (truthN b)) ∧ w = w' := by
  cases b <;> (go_enter Tryz.func64, Tryz.ntmps64; go_wp2; go_ret; exact ⟨rfl, rfl⟩)
theorem nan_any (x : Int) (w : World) : Calls Tryz.prog 118 #[.int .i64 x] w fun e w' => e = .returned (.bool false) ∧ w = w' := by
  go_enter Tryz.func118, Tryz.ntmps118
  go_wp2
  go_ret
  exact ⟨by simp, rfl⟩
theorem nan64_any (x : Int) (w : World) : Calls Tryz.prog 120 #[.int .i64 x] w fun e w' => e = .returned (.bool false) ∧ w = w' := by
  go_enter Tryz.func120, Tryz.ntmps120
  go_wp2
  go_ret
  exact ⟨by simp, rfl⟩
theorem cmp_any (x y : Int) (w : World) : Calls Tryz.prog 93 #[.int .i64 x, .int .i64 y] w fun e w' => e = .returned (.int .i64 (cmpI x y)) ∧ w = w' := by
  rcases cmpI_cases x y with ⟨h, e⟩ | ⟨h, e⟩ | ⟨h, e⟩
  all_goals
    rw [e]
    clear e
  · have d1 : decide (x < y) = true := by simpa using h
    go_enter Tryz.func93, Tryz.ntmps93
    go_wp2_with (go_at_call 118; refine (nan_any _ _).mono ?_; rintro e w' ⟨rfl, rfl⟩)
    go_ret
    exact ⟨rfl, rfl⟩
  · subst h
    go_enter Tryz.func93, Tryz.ntmps93
    go_wp2_with (go_at_call 118; refine (nan_any _ _).mono ?_; rintro e w' ⟨rfl, rfl⟩)
    go_ret
    exact ⟨rfl, rfl⟩
  · have d1 : decide (x < y) = false := by simp; omega
    have d2 : decide (x > y) = true := by simp; omega
    go_enter Tryz.func93, Tryz.ntmps93
    go_wp2_with (go_at_call 118; refine (nan_any _ _).mono ?_; rintro e w' ⟨rfl, rfl⟩)
    go_ret
    exact ⟨rfl, rfl⟩
theorem cmp64_any (x y : Int) (w : World) : Calls Tryz.prog 98 #[.int .i64 x, .int .i64 y] w fun e w' => e = .returned (.int .i64 (cmpI x y)) ∧ w = w' := by
  rcases cmpI_cases x y with ⟨h, e⟩ | ⟨h, e⟩ | ⟨h, e⟩
  all_goals
    rw [e]
    clear e
  · have d1 : decide (x < y) = true := by simpa using h
    go_enter Tryz.func98, Tryz.ntmps98
    go_wp2_with (go_at_call 120; refine (nan64_any _ _).mono ?_; rintro e w' ⟨rfl, rfl⟩)
    go_ret
    exact ⟨rfl, rfl⟩
  · subst h
    go_enter Tryz.func98, Tryz.ntmps98
    go_wp2_with (go_at_call 120; refine (nan64_any _ _).mono ?_; rintro e w' ⟨rfl, rfl⟩)
    go_ret
    exact ⟨rfl, rfl⟩
  · have d1 : decide (x < y) = false := by simp; omega
    have d2 : decide (x > y) = true := by simp; omega
    go_enter Tryz.func98, Tryz.ntmps98
    go_wp2_with (go_at_call 120; refine (nan64_any _ _).mono ?_; rintro e w' ⟨rfl, rfl⟩)
    go_ret
    exact ⟨rfl, rfl⟩
theorem or_any (x y z : Int) (w : World) (g : Nat) (h0 : w.cell? ⟨g, 0, none⟩ = some (.int .i64 x)) (h1 : w.cell? ⟨g, 1, none⟩ = some (.int .i64 y)) (h2 : w.cell? ⟨g, 2, none⟩ = some (.int .i64 z)) :
    Calls Tryz.prog 96 #[.slice (some ⟨g, 0, none⟩) 3 3] w fun e w' => e = .returned (.int .i64 (orI x (orI y z))) ∧ w = w' := by
  have HC := Lib.hid (And.intro h0 (And.intro h1 h2))
  clear h0 h1 h2
  go_enter Tryz.func96, Tryz.ntmps96
  go_wp2
  go_loop [8] (fun i => ∃ k : Nat, k ≤ 3 ∧ i = .int .i64 (k : Int) ∧ Hid ((1 ≤ k → x = 0) ∧ (2 ≤ k → y = 0) ∧ (3 ≤ k → z = 0))) (fun i => 3 - (intOf i).toNat)
  case atStart => exact ⟨0, by omega, rfl, Lib.hid ⟨fun h => by omega, fun h => by omega, fun h => by omega⟩⟩
  case round =>
    obtain ⟨k, hk, rfl, HZ⟩ := hrel
    obtain ⟨h0, h1, h2⟩ := HC.out
    have hkk : k = 0 ∨ k = 1 ∨ k = 2 ∨ k = 3 := by omega
    rcases hkk with rfl | rfl | rfl | rfl
    · by_cases e : x = 0
      · have d : (x != 0) = false := by simp [e]
        have He := Lib.hid e
        clear e
        go_wp2
        go_round
        case rel => exact ⟨1, by omega, rfl, Lib.hid ⟨fun _ => He.out, fun h => by omega, fun h => by omega⟩⟩
        case measure => simp [intOf]
      · have d : (x != 0) = true := by simpa using e
        have He := Lib.hid e
        clear e
        go_wp2
        go_ret
        exact ⟨ret_int (by unfold orI; rw [if_pos He.out]), rfl⟩
    · by_cases e : y = 0
      · have d : (y != 0) = false := by simp [e]
        have He := Lib.hid e
        clear e
        go_wp2
        go_round
        case rel => exact ⟨2, by omega, rfl, Lib.hid ⟨fun _ => HZ.out.1 (by omega), fun _ => He.out, fun h => by omega⟩⟩
        case measure => simp [intOf]
      · have d : (y != 0) = true := by simpa using e
        have He := Lib.hid e
        clear e
        go_wp2
        go_ret
        exact ⟨ret_int (by rw [HZ.out.1 (by omega), orI_zero_left]; unfold orI; rw [if_pos He.out]), rfl⟩
    · by_cases e : z = 0
      · have d : (z != 0) = false := by simp [e]
        have He := Lib.hid e
        clear e
        go_wp2
        go_round
        case rel => exact ⟨3, by omega, rfl, Lib.hid ⟨fun _ => HZ.out.1 (by omega), fun _ => HZ.out.2.1 (by omega), fun _ => He.out⟩⟩
        case measure => simp [intOf]
      · have d : (z != 0) = true := by simpa using e
        have He := Lib.hid e
        clear e
        go_wp2
        go_ret
        exact ⟨ret_int (by rw [HZ.out.1 (by omega), HZ.out.2.1 (by omega), orI_zero_left, orI_zero_left]), rfl⟩
    · go_wp2
      go_ret
      exact ⟨ret_int (by rw [HZ.out.1 (by omega), HZ.out.2.1 (by omega), HZ.out.2.2 (by omega)]; rfl), rfl⟩
theorem check_bool (a : Bool) (em : Bool) (w : World) : (Instr.checkKey em 10000 4 (.bool a)).run Tryz.prog w = .ok () w := by
  have : (10000 : Nat) = 9999 + 1 := rfl
  rw [this, Instr.checkKey]
  simp [Sem.run_bind, run_underlying Tryz.underlying4, Result.andThen]
theorem find_tt (a : Bool) (w : World) : (Instr.findKey 4 (.bool a) [{ key := .bool true, val := .int .i64 1, born := 0 }]).run Tryz.prog w = .ok (if a then some (0, .int .i64 1) else none) w := by
  cases a <;> simp [Instr.findKey, Sem.run_bind, run_underlying Tryz.underlying4, Result.andThen, Instr.findNow, Instr.sameNow]
/-- The map of truths: what lies under each. -/
theorem lookup_tt {w : World} {b clk : Nat} (h : w.heap[b]? = some (.map #[{ key := .bool true, val := .int .i64 1, born := 0 }] clk)) (a : Bool) : (Instr.lookup 123 (.map (some b)) (.bool a) false).run Tryz.prog w = .ok (.int .i64 (b2i a)) w := by
  unfold Instr.lookup
  simp only [Sem.run_bind, run_underlying Tryz.underlying123, Result.andThen_ok, getObj, Sem.run, h, Sem.run_pure, check_bool, find_tt]
  cases a
  · simp [Tryz.zeroValue3, b2i]
  · simp [b2i]
theorem insert_tt {w : World} {b : Nat} (h : w.heap[b]? = some (.map #[] 0)) : (Instr.mapUpdate 123 (.map (some b)) (.bool true) (.int .i64 1)).run Tryz.prog w = .ok () (w.putObj b (.map #[{ key := .bool true, val := .int .i64 1, born := 0 }] 1)) := by
  unfold Instr.mapUpdate
  have hf : (Instr.findKey 4 (.bool true) []).run Tryz.prog w = .ok none w := by simp [Instr.findKey, Sem.run_bind, run_underlying Tryz.underlying4, Result.andThen, Instr.findNow]
  simp only [Sem.run_bind, run_underlying Tryz.underlying123, Result.andThen_ok, getObj, Sem.run, h, Sem.run_pure, check_bool, hf]
  simp [setObj, Sem.run, h, World.putObj]
set_option maxRecDepth 100000 in
set_option maxHeartbeats 1000000 in
theorem truths_any (a b : Bool) (w : World) : Calls Tryz.prog 95 #[.bool a, .bool b] w fun e w' => e = .returned (.int .i64 (cmpI (b2i a) (b2i b))) ∧ Below w.heap.size w w' := by
  have hmm := @run_makeMap Tryz.prog
  have hin := insert_tt (w := w.alloc (.map #[] 0)) (b := w.heap.size) (heap_alloc_new _ _)
  have hb : Below w.heap.size w ((w.alloc (.map #[] 0)).putObj w.heap.size (.map #[{ key := .bool true, val := .int .i64 1, born := 0 }] 1)) := below_putObj (below_new _) (Nat.le_refl _)
  have hlk := fun a => lookup_tt (w := (w.alloc (.map #[] 0)).putObj w.heap.size (.map #[{ key := .bool true, val := .int .i64 1, born := 0 }] 1)) (b := w.heap.size) (clk := 1) (putObj_self (heap_alloc_new _ _)) a
  generalize (w.alloc (.map #[] 0)).putObj w.heap.size (.map #[{ key := .bool true, val := .int .i64 1, born := 0 }] 1) = w1 at *
  have HB := Lib.hid hb
  clear hb
  go_enter Tryz.func95, Tryz.ntmps95
  go_wp2_with (go_at_call 93; refine (cmp_any _ _ _).mono ?_; rintro e w' ⟨rfl, rfl⟩)
  go_ret
  exact ⟨rfl, HB.out⟩
end Go.Proofs.YtnkaegdnjfpliaaGreatDoor
