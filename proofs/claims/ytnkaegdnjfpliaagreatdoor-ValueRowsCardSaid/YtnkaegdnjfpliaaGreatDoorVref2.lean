/- The document's UTF8 and bare. -/
import Derived.Test.YtnkaegdnjfpliaaGreatDoorVref1
namespace Go.Proofs.YtnkaegdnjfpliaaGreatDoor
set_option linter.unusedSimpArgs false
set_option linter.unusedVariables false
open Go.RowKit

theorem runeL_le (l : List UInt8) (i : Nat) : runeL l i ≤ 4 := by
  unfold runeL
  (repeat' split) <;> omega
theorem valid_step (l : List UInt8) (i : Nat) (h : i < l.length) : Lib.validD (l.drop i) = if runeL l i = 0 then false else Lib.validD (l.drop (i + runeL l i)) := by
  have h1 := utfFrom_valid l (l.length - i) i (Nat.le_refl _)
  obtain ⟨f, hf⟩ : ∃ f, l.length - i = f + 1 := ⟨l.length - i - 1, by omega⟩
  rw [hf] at h1
  rw [← h1]
  unfold utfFrom
  have h' : ¬ l.length ≤ i := by omega
  by_cases h0 : runeL l i = 0
  · simp [h', h0]
  · have h2 := utfFrom_valid l f (i + runeL l i) (by omega)
    simp [h', h0, h2]
theorem valid_end (l : List UInt8) (i : Nat) (h : l.length ≤ i) : Lib.validD (l.drop i) = true := by
  rw [List.drop_eq_nil_of_le h]; rfl
set_option maxRecDepth 100000 in
set_option maxHeartbeats 2000000 in
theorem utfR_any (l : List UInt8) (w : World) (hl : l.length ≤ 140737488355328) : Calls Tryz.prog 30 #[.string (strB l)] w fun e w' => e = .returned (.bool (Lib.validD l)) ∧ w = w' := by
  have hsz : (strB l).size = l.length := rfl
  have z1 : (l.length : Int) ≤ 140737488355328 := by omega
  have HL := Lib.hid hl
  go_enter Tryz.func30, Tryz.ntmps30
  go_wp2
  go_loopw [3] (fun i W => ∃ j : Nat, j ≤ l.length + 4 ∧ i = .int .i64 (j : Int) ∧ Hid (Lib.validD l = Lib.validD (l.drop j)) ∧ w = W) (fun i _ => l.length - (intOf i).toNat)
  case atStart => exact ⟨0, by omega, rfl, Lib.hid rfl, rfl⟩
  case round =>
    obtain ⟨j, hj, rfl, HQ, rfl⟩ := hrel
    have zj : (j : Int) ≤ 140737488355332 := by omega
    by_cases hlt : j < l.length
    · have hst := valid_step l j hlt
      have hrl := runeL_le l j
      have HC := Lib.hid (runeAt_any l j w hlt HL.out)
      by_cases h0 : runeL l j = 0
      · rw [if_pos h0] at hst
        rw [h0] at HC
        have HS := Lib.hid hst
        clear hst h0 hrl
        go_wp2_with (go_at_call 71; refine HC.out.mono ?_; rintro e w' ⟨rfl, rfl⟩)
        go_ret
        exact ⟨ret_bool (by rw [HQ.out, HS.out]), rfl⟩
      · rw [if_neg h0] at hst
        generalize runeL l j = r at *
        have HS := Lib.hid (HQ.out.trans hst)
        have hr0 : ¬ (r : Int) = 0 := by omega
        have hr1 : ((r : Int) == 0) = false := by rw [beq_eq_false_iff_ne]; omega
        have zr : (r : Int) ≤ 4 := by omega
        clear hst HQ
        go_wp2_with (go_at_call 71; refine HC.out.mono ?_; rintro e w' ⟨rfl, rfl⟩)
        go_roundw
        case rel => exact ⟨j + r, by omega, by go_num, HS, trivial⟩
        case measure => simp [intOf]; omega
    · have he := valid_end l j (by omega)
      go_wp2
      go_ret
      exact ⟨ret_bool (by rw [HQ.out, he]), rfl⟩
end Go.Proofs.YtnkaegdnjfpliaaGreatDoor
