/- Ticks doubled. Plain. -/
import Derived.Test.YtnkaegdnjfpliaaGreatDoorTxt
import Derived.Lib.Replace
import Derived.Lib.SplitLaws
namespace Go.Proofs.YtnkaegdnjfpliaaGreatDoor
set_option linter.unusedSimpArgs false
set_option linter.unusedVariables false
theorem index_low : ∀ (s sub : List UInt8), -1 ≤ Lib.index s sub := by
  intro s
  induction s with
  | nil => intro sub; unfold Lib.index; split <;> omega
  | cons b l ih =>
    intro sub
    unfold Lib.index
    have := ih sub
    split
    · omega
    · split <;> omega
theorem replaceK_tick : ∀ (s : List UInt8) (k : Nat), s.count 96 ≤ k → Lib.replaceK [96] [96, 96] k s = s.flatMap tickB := by
  intro s
  induction s with
  | nil =>
    intro k _
    cases k with
    | zero => rfl
    | succ k => rw [Lib.replaceK]; rfl
  | cons b s ih =>
    intro k hk
    rw [List.flatMap_cons]
    by_cases hb : b = 96
    · subst hb
      rw [List.count_cons_self] at hk
      obtain ⟨k', rfl⟩ : ∃ k', k = k' + 1 := ⟨k - 1, by omega⟩
      have hi : Lib.index (96 :: s) [96] = ((0 : Nat) : Int) := by simp [Lib.index, List.isPrefixOf]
      rw [Lib.replaceK_hit _ _ _ _ 0 hi]
      simp only [List.take_zero, List.nil_append, List.length_singleton, Nat.zero_add, List.drop_succ_cons, List.drop_zero]
      rw [ih k' (by omega)]
      rfl
    · have ht : tickB b = [b] := by unfold tickB; rw [if_neg hb]
      have hc : (b :: s).count 96 = s.count 96 := List.count_cons_of_ne (fun h => hb h)
      rw [hc] at hk
      have h := ih k hk
      rw [ht, ← h]
      cases k with
      | zero => rfl
      | succ k =>
        have hi : Lib.index (b :: s) [96] = if Lib.index s [96] == -1 then -1 else Lib.index s [96] + 1 := by
          have : ([96] : List UInt8).isPrefixOf (b :: s) = false := by simp [List.isPrefixOf, Ne.symm hb]
          rw [Lib.index, this]; rfl
        rw [Lib.replaceK, Lib.replaceK, hi]
        by_cases hn : Lib.index s [96] = -1
        · rw [hn]; rfl
        · have hge : 0 ≤ Lib.index s [96] := by
            have := index_low s [96]
            omega
          have e1 : (Lib.index s [96] == -1) = false := by simpa using hn
          rw [e1]
          have e2 : (Lib.index s [96] + 1 == -1) = false := by rw [beq_eq_false_iff_ne]; omega
          simp only [Bool.false_eq_true, if_false, e2]
          have e3 : (Lib.index s [96] + 1).toNat = (Lib.index s [96]).toNat + 1 := by omega
          rw [e3]
          simp [List.take_succ_cons, Nat.add_right_comm]
theorem replaceAll_tick (s : List UInt8) : Lib.replaceAll s [96] [96, 96] = s.flatMap tickB := by
  unfold Lib.replaceAll Lib.replace Lib.replaceNum
  rw [if_neg (by decide), if_pos (.inl (by decide))]
  exact replaceK_tick s _ (by rw [Lib.count_one]; exact Nat.le_refl _)
end Go.Proofs.YtnkaegdnjfpliaaGreatDoor
