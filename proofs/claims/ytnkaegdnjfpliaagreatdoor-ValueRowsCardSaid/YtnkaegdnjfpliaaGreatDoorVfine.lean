/- value.fine. -/
import Derived.Test.YtnkaegdnjfpliaaGreatDoorVcheck
namespace Go.Proofs.YtnkaegdnjfpliaaGreatDoor
set_option linter.unusedSimpArgs false
set_option linter.unusedVariables false
open Go.RowKit

/-- May a value be? -/
def okV (v : V) : Bool := checkV Lib.validD v == 0
/-- May all be? -/
def fineL (l : List V) : Bool := l.all okV
set_option maxRecDepth 100000 in
set_option maxHeartbeats 1000000 in
theorem fine1_any {v : V} {w : World} {x : Array Value} (hE : Env w) (hx : VRd w v x) (ht : totV v ≤ 1099511627776) :
    Calls Tryz.prog 92 #[.agg x] w fun e w' => e = .returned (.bool (!(okV v))) ∧ Below w.heap.size w w' := by
  have hT := OneB.start w x
  have hc := check_ok (hE.b hT.2) (hx.below hT.2) ht
  obtain ⟨pk, ck, pl, cl, rfl, _⟩ := hx.open
  have HC := Lib.hid hc
  have HT := Lib.hid hT
  clear hc hT hx hE ht
  unfold okV
  generalize checkV Lib.validD v = R at *
  go_enter Tryz.func92, Tryz.ntmps92
  go_wp2_with (go_at_call 45; refine HC.out.mono ?_; rintro e w1 ⟨rfl, hb1⟩; have HB := Lib.hid (below_trans HT.out.2 hb1); clear hb1)
  go_ret
  exact ⟨ret_bool (by simp [bne]), HB.out⟩
set_option maxRecDepth 100000 in
set_option maxHeartbeats 2000000 in
theorem index_fine {w : World} {p : Option Addr} {c : Nat} {l : List V} (hE : Env w) (hl : LRd w p c l) (ht : totVs l ≤ 1099511627776) :
    Calls Tryz.prog 116 #[.slice p l.length c, .func (.func 92) #[] #[]] w fun e w' => (∃ i : Int, e = .returned (.int .i64 i) ∧ decide (0 ≤ i) = !(fineL l)) ∧ Below w.heap.size w w' := by
  have z1 : (l.length : Int) ≤ 140737488355328 := by have := hl.1.1; have := hl.1.2.1; omega
  have HE := Lib.hid hE
  have HL := Lib.hid hl
  have HT := Lib.hid ht
  clear hE hl ht
  go_enter Tryz.func116, Tryz.ntmps116
  go_wp2
  go_loopw [8] (fun i W => ∃ j : Nat, j ≤ l.length ∧ i = .int .i64 (j : Int) ∧ Hid (Below w.heap.size w W ∧ fineL (l.take j) = true)) (fun i _ => l.length - (intOf i).toNat)
  case atStart => exact ⟨0, Nat.zero_le _, rfl, Lib.hid ⟨Below.refl _ _, rfl⟩⟩
  case round =>
    obtain ⟨j, hj, rfl, HJ⟩ := hrel
    by_cases hlt : j < l.length
    · have hlt1 : j + 1 ≤ l.length := hlt
      obtain ⟨hb, hf⟩ := HJ.out
      have htk : fineL (l.take (j + 1)) = okV l[j] := by
        unfold fineL at *
        rw [List.take_succ_eq_append_getElem hlt, List.all_append, hf]; simp
      have hbad : okV l[j] = false → fineL l = false := fun h => by
        unfold fineL; rw [List.all_eq_false]; exact ⟨l[j], List.getElem_mem hlt, by simp [h]⟩
      have htot := totVs_mem (List.getElem_mem hlt)
      obtain ⟨g1, o1, pk1, ck1, pl1, cl1, rfl, ⟨a0, a1, a2, a3, a4, a5⟩, hv1⟩ := (HL.out.below hb).at hlt
      have hcall := fine1_any (HE.out.b hb) hv1 (by have := HT.out; omega)
      generalize okV l[j] = on at *
      generalize l[j] = s1 at *
      have HD := Lib.hid (And.intro htk (And.intro hbad (And.intro hcall hb)))
      clear htk hbad hcall hb hf htot hv1 HJ
      cases on with
      | false =>
        go_wp2_with (go_at_call 92
                     (
                       refine HD.out.2.2.1.mono ?_
                       rintro e w1 ⟨rfl, hb1⟩
                       have HB := Lib.hid hb1
                       clear hb1))
        go_ret
        refine ⟨⟨_, rfl, ?_⟩, below_trans HD.out.2.2.2 HB.out⟩
        rw [HD.out.2.1 (by simp)]; simp
      | true =>
        go_wp2_with (go_at_call 92
                     (
                       refine HD.out.2.2.1.mono ?_
                       rintro e w1 ⟨rfl, hb1⟩
                       have HB := Lib.hid hb1
                       clear hb1))
        go_roundw
        case rel => exact ⟨j + 1, hlt1, by go_num, Lib.hid ⟨below_trans HD.out.2.2.2 HB.out, HD.out.1⟩⟩
        case measure => simp [intOf]; omega
    · obtain rfl : j = l.length := by omega
      have hfin : fineL l = true := by have h := HJ.out.2; rwa [List.take_length] at h
      have HF := Lib.hid (And.intro hfin HJ.out.1)
      clear hfin HJ
      go_wp2
      go_ret
      exact ⟨⟨_, rfl, by rw [HF.out.1]; simp⟩, HF.out.2⟩
theorem contains_fine {w : World} {p : Option Addr} {c : Nat} {l : List V} (hE : Env w) (hl : LRd w p c l) (ht : totVs l ≤ 1099511627776) :
    Calls Tryz.prog 90 #[.slice p l.length c, .func (.func 92) #[] #[]] w fun e w' => e = .returned (.bool (!(fineL l))) ∧ Below w.heap.size w w' := by
  have HC := Lib.hid (index_fine hE hl ht)
  clear hE hl ht
  go_enter Tryz.func90, Tryz.ntmps90
  go_wp2_with (go_at_call 116; refine HC.out.mono ?_; rintro e w1 ⟨⟨i, rfl, hi⟩, hb1⟩; have HB := Lib.hid (And.intro hi hb1); clear hi hb1)
  go_ret
  exact ⟨ret_bool HB.out.1, HB.out.2⟩
theorem fine_any {w : World} {p : Option Addr} {c : Nat} {l : List V} (hE : Env w) (hl : LRd w p c l) (ht : totVs l ≤ 1099511627776) :
    Calls Tryz.prog 62 #[.slice p l.length c] w fun e w' => e = .returned (.bool (fineL l)) ∧ Below w.heap.size w w' := by
  have HC := Lib.hid (contains_fine hE hl ht)
  clear hE hl ht
  go_enter Tryz.func62, Tryz.ntmps62
  go_wp2_with (go_at_call 90; refine HC.out.mono ?_; rintro e w1 ⟨rfl, hb1⟩; have HB := Lib.hid hb1; clear hb1)
  go_ret
  exact ⟨ret_bool (by simp), HB.out⟩
end Go.Proofs.YtnkaegdnjfpliaaGreatDoor
