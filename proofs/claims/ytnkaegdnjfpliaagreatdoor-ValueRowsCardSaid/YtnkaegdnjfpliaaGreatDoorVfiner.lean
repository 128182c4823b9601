/- The law's fine. -/
import Derived.Test.YtnkaegdnjfpliaaGreatDoorVsizer
import Derived.Test.YtnkaegdnjfpliaaGreatDoorVfine
namespace Go.Proofs.YtnkaegdnjfpliaaGreatDoor
set_option linter.unusedSimpArgs false
set_option linter.unusedVariables false
open Go.RowKit

theorem beq_bne (k : Int) : (!(k != 0)) = (k == 0) := by
  cases h : (k == 0) <;> simp_all
def FineTo (l : List V) : Prop := fineL l = true
theorem FineTo.snoc {l : List V} {j : Nat} (hlt : j < l.length) (h : FineTo (l.take j)) (ho : checkV Lib.validD l[j] = 0) : FineTo (l.take (j + 1)) := by
  unfold FineTo fineL at *
  rw [List.take_succ_eq_append_getElem hlt, List.all_append, h]
  simp [okV, ho]
theorem fineL_not {l : List V} {j : Nat} (hlt : j < l.length) (ho : ¬ checkV Lib.validD l[j] = 0) : fineL l = false := by
  unfold fineL
  exact List.all_eq_false.2 ⟨l[j], List.getElem_mem hlt, by simp [okV, ho]⟩
set_option maxRecDepth 100000 in
set_option maxHeartbeats 4000000 in
theorem finel_any {w : World} {p : Option Addr} {c : Nat} {l : List V} (hl : LRd w p c l) (ht : totVs l ≤ 1099511627776) :
    Calls Tryz.prog 18 #[.slice p l.length c] w fun e w' => e = .returned (.bool (fineL l)) ∧ Below w.heap.size w w' := by
  have z2 : (l.length : Int) ≤ 140737488355328 := by have := hl.1.2.1; omega
  have HK := Lib.hid (And.intro hl ht)
  clear hl ht
  go_enter Tryz.func18, Tryz.ntmps18
  go_wp2
  go_loopw [3] (fun i W => ∃ j : Nat, j ≤ l.length ∧ i = .int .i64 (j : Int) ∧ Hid (FineTo (l.take j)) ∧ Hid (Below w.heap.size w W)) (fun i _ => l.length - (intOf i).toNat)
  case atStart => exact ⟨0, Nat.zero_le _, rfl, Lib.hid rfl, Lib.hid (Below.refl _ _)⟩
  case round =>
    obtain ⟨j, hj, rfl, HQ, HB⟩ := hrel
    by_cases hlt : j < l.length
    · have hlt1 : j + 1 ≤ l.length := hlt
      obtain ⟨g1, o1, pk1, ck1, pl1, cl1, rfl, ⟨a0, a1, a2, a3, a4, a5⟩, hv1⟩ := (HK.out.1.below HB.out).at hlt
      have hcall := checkR_any (Nat.le_trans (totVs_mem (List.getElem_mem hlt)) HK.out.2) hv1
      have hok := fun h => FineTo.snoc hlt HQ.out h
      have hno := fun h => fineL_not hlt h
      have HD := Lib.hid (And.intro hcall (And.intro hok (And.intro hno HB.out)))
      clear hcall hok hno hv1
      generalize l[j] = s1 at *
      by_cases h0 : checkV Lib.validD s1 = 0
      · have hb : (checkV Lib.validD s1 != 0) = false := by simp [h0]
        generalize hK : checkV Lib.validD s1 = K at *
        go_wp2_with (go_at_call 28
                     (
                       refine HD.out.1.mono ?_
                       rintro e w3 ⟨rfl, hb3⟩
                       have HG := Lib.hid (below_trans HD.out.2.2.2 hb3)
                       clear hb3))
        go_roundw
        case rel => exact ⟨j + 1, hlt1, by go_num, Lib.hid (HD.out.2.1 h0), HG⟩
        case measure => simp [intOf]; omega
      · have hb : (checkV Lib.validD s1 != 0) = true := by simp [h0]
        generalize hK : checkV Lib.validD s1 = K at *
        go_wp2_with (go_at_call 28
                     (
                       refine HD.out.1.mono ?_
                       rintro e w3 ⟨rfl, hb3⟩
                       have HG := Lib.hid (below_trans HD.out.2.2.2 hb3)
                       clear hb3))
        go_ret
        exact ⟨ret_bool (HD.out.2.2.1 h0).symm, HG.out⟩
    · obtain rfl : j = l.length := by omega
      have hQ : FineTo (l.take l.length) := HQ.out
      rw [List.take_length] at hQ
      have HQ2 := Lib.hid (show fineL l = true from hQ)
      clear hQ
      go_wp2
      go_ret
      exact ⟨ret_bool HQ2.out.symm, HB.out⟩
end Go.Proofs.YtnkaegdnjfpliaaGreatDoor
