/- The document's UTF8 and what it calls. -/
import Derived.Test.YtnkaegdnjfpliaaGreatDoorVmay
namespace Go.Proofs.YtnkaegdnjfpliaaGreatDoor
set_option linter.unusedSimpArgs false
set_option linter.unusedVariables false
open Go.RowKit

set_option maxRecDepth 100000 in
theorem more_any (l : List UInt8) (i : Nat) (w : World) (hi : i ≤ 140737488355400) (hl : l.length ≤ 140737488355328) : Calls Tryz.prog 104 #[.string (strB l), .int .i64 (i : Int)] w fun e w' => e = .returned (.bool (moreB l i)) ∧ w = w' := by
  have hsz : (strB l).size = l.length := rfl
  have z1 : (l.length : Int) ≤ 140737488355328 := by omega
  by_cases h : i < l.length
  · have hm : moreB l i = (decide (128 ≤ l[i].toNat) && decide (l[i].toNat ≤ 191)) := by unfold moreB; rw [List.getElem?_eq_getElem h]
    rw [hm]
    go_enter Tryz.func104, Tryz.ntmps104
    go_wp2
    · rename_i hx
      have hx' : 128 ≤ (l[i].toNat : Int) := hx
      go_ret
      refine ⟨ret_bool ?_, rfl⟩
      rw [show decide (128 ≤ l[i].toNat) = true by simp; omega, Bool.true_and]
      show decide ((l[i].toNat : Int) ≤ 191) = decide (l[i].toNat ≤ 191)
      rw [Bool.eq_iff_iff, decide_eq_true_iff, decide_eq_true_iff]
      omega
    · rename_i hx
      have hx' : (l[i].toNat : Int) < 128 := hx
      go_ret
      exact ⟨ret_bool (by rw [show decide (128 ≤ l[i].toNat) = false by simp; omega]; rfl), rfl⟩
  · have hm : moreB l i = false := by unfold moreB; rw [List.getElem?_eq_none (by omega)]
    rw [hm]
    go_enter Tryz.func104, Tryz.ntmps104
    go_wp2
    go_ret
    exact ⟨rfl, rfl⟩
theorem more_int (l : List UInt8) (n : Int) (w : World) (h0 : 0 ≤ n) (hi : n ≤ 140737488355400) (hl : l.length ≤ 140737488355328) : Calls Tryz.prog 104 #[.string (strB l), .int .i64 n] w fun e w' => e = .returned (.bool (moreB l n.toNat)) ∧ w = w' := by
  obtain ⟨i, rfl⟩ : ∃ i : Nat, n = (i : Int) := ⟨n.toNat, by omega⟩
  exact more_any l i w (by omega) hl
set_option maxRecDepth 100000 in
set_option maxHeartbeats 8000000 in
theorem runeAt_any (l : List UInt8) (i : Nat) (w : World) (hi : i < l.length) (hl : l.length ≤ 140737488355328) : Calls Tryz.prog 71 #[.string (strB l), .int .i64 (i : Int)] w fun e w' => e = .returned (.int .i64 (runeL l i : Int)) ∧ w = w' := by
  have hsz : (strB l).size = l.length := rfl
  have z1 : (l.length : Int) ≤ 140737488355328 := by omega
  have t1 : ((i : Int) + 1).toNat = i + 1 := by omega
  have t2 : ((i : Int) + 2).toNat = i + 2 := by omega
  have t3 : ((i : Int) + 3).toNat = i + 3 := by omega
  have hb : byteN l i = ((strB l)[i]'hi).toNat := by unfold byteN; rw [List.getElem?_eq_getElem hi]; rfl
  cases hm1 : moreB l (i + 1) with
  | false =>
    go_enter Tryz.func71, Tryz.ntmps71
    go_wp2_with (go_at_call 104
                 (
                   refine (more_int _ _ _ (by omega) (by omega) hl).mono ?_
                   rintro e w' ⟨rfl, rfl⟩
                   simp only [t1, t2, t3, hm1]))
    all_goals
      go_ret
      refine ⟨ret_int ?_, rfl⟩
      unfold runeL
      rw [hm1, hb]
      generalize ((strB l)[i]'hi).toNat = c at *
      (repeat' split) <;> first | rfl | omega | (simp only [Bool.and_eq_true, decide_eq_true_eq, Bool.false_eq_true, and_false, false_and, not_false_eq_true, not_true_eq_false] at * <;> omega)
  | true =>
    have hi1 : i + 1 < l.length := by
      unfold moreB at hm1
      split at hm1
      · rename_i x hx
        exact (List.getElem?_eq_some_iff.1 hx).1
      · cases hm1
    have hi1' : (i : Int) + 1 < l.length := by omega
    have hb1 : byteN l (i + 1) = ((strB l)[i + 1]'hi1).toNat := by unfold byteN; rw [List.getElem?_eq_getElem hi1]; rfl
    cases hm2 : moreB l (i + 2) <;> cases hm3 : moreB l (i + 3)
    all_goals
      go_enter Tryz.func71, Tryz.ntmps71
      go_wp2_with (go_at_call 104
                   (
                     refine (more_int _ _ _ (by omega) (by omega) hl).mono ?_
                     rintro e w' ⟨rfl, rfl⟩
                     simp only [t1, t2, t3, hm1, hm2, hm3]))
      all_goals
        go_ret
        refine ⟨ret_int ?_, rfl⟩
        unfold runeL
        rw [hm1, hm2, hb, hb1]
        try rw [hm3]
        generalize ((strB l)[i]'hi).toNat = c at *
        generalize ((strB l)[i + 1]'hi1).toNat = d at *
        (repeat' split) <;> first | rfl | omega | (simp only [Bool.and_eq_true, Bool.or_eq_true, beq_iff_eq, decide_eq_true_eq, Bool.false_eq_true, and_false, false_and, and_true, true_and, not_false_eq_true, not_true_eq_false] at * <;> omega)
end Go.Proofs.YtnkaegdnjfpliaaGreatDoor
