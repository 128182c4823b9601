/- The law ValueRows. -/
import Derived.Test.YtnkaegdnjfpliaaGreatDoorVapps
import Derived.Test.YtnkaegdnjfpliaaGreatDoorVfiner
import Derived.Test.YtnkaegdnjfpliaaGreatDoorVcmpd
import Derived.Test.YtnkaegdnjfpliaaGreatDoorVstor
import Derived.Test.YtnkaegdnjfpliaaGreatDoorVwork
import Derived.Test.YtnkaegdnjfpliaaGreatDoorVsize
namespace Go.Proofs.YtnkaegdnjfpliaaGreatDoor
set_option linter.unusedSimpArgs false
set_option linter.unusedVariables false
open Go.RowKit

theorem rowsF_fine {l m : List V} (h1 : fineL l = true) (h2 : fineL m = true) : rowsF l m = cmpL cmpV l m := by unfold rowsF; rw [h1, h2]; rfl
theorem rowsF_not {l m : List V} (h : (fineL l && fineL m) = false) : rowsF l m = 0 := by unfold rowsF; rw [h]; rfl
theorem cmpL_neg (l m : List V) : cmpL cmpV m l = -(cmpL cmpV l m) := (ord_cmpL l fun a _ => ord_cmpV a).anti m
set_option maxRecDepth 100000 in
set_option maxHeartbeats 4000000 in
theorem rows_law {w : World} {p1 p2 : Option Addr} {c1 c2 : Nat} {l m : List V} (hE : Env w) (h1 : LRd w p1 c1 l) (h2 : LRd w p2 c2 m) :
    Calls Tryz.prog 9 #[.slice p1 l.length c1, .slice p2 m.length c2] w fun e w' => e = .returned (.bool true) ∧ Below w.heap.size w w' := by
  have z1 : (l.length : Int) ≤ 140737488355328 := by have := h1.1.2.1; omega
  have z2 : (m.length : Int) ≤ 140737488355328 := by have := h2.1.2.1; omega
  have HWK := Lib.hid (fun (W : World) (hb : Below w.heap.size w W) => (works_any (hE.b hb)).mono (R' := fun e w' => e = .returned (.bool true) ∧ Below w.heap.size w w') fun _ _ h => ⟨h.1, below_trans hb h.2⟩)
  by_cases g1 : 2000 < l.length
  · have g1' : (2000 : Int) < l.length := by omega
    clear hE h1 h2
    go_enter Tryz.func9, Tryz.ntmps9
    go_wp2_with (go_at_call 16; refine (HWK.out _ (Below.refl _ _)).mono ?_; rintro e w9 ⟨rfl, hb⟩; have HB := Lib.hid hb; clear hb)
    go_ret
    exact ⟨rfl, HB.out⟩
  · by_cases g2 : 2000 < m.length
    · have g1' : ¬ (2000 : Int) < l.length := by omega
      have g2' : (2000 : Int) < m.length := by omega
      clear hE h1 h2
      go_enter Tryz.func9, Tryz.ntmps9
      go_wp2_with (go_at_call 16; refine (HWK.out _ (Below.refl _ _)).mono ?_; rintro e w9 ⟨rfl, hb⟩; have HB := Lib.hid hb; clear hb)
      go_ret
      exact ⟨rfl, HB.out⟩
    · have g1' : ¬ (2000 : Int) < l.length := by omega
      have g2' : ¬ (2000 : Int) < m.length := by omega
      obtain ⟨v1, W1, a1, i1⟩ := (AInv.start (w := w) (W := w) (Below.refl _ _)).step h1 (by simp; omega) 24
      rw [List.nil_append] at i1
      obtain ⟨v2, W2, a2, i2⟩ := i1.step h2 (by omega) 24
      have hlm : (l ++ m).length ≤ 1000000 := by simp; omega
      obtain ⟨p3, c3, rfl, h3⟩ := i2.rd hlm
      have HSM := Lib.hid ((small_any h3).mono (R' := fun e w' => e = .returned (.bool (decide (totVs (l ++ m) ≤ 2000))) ∧ Below w.heap.size w w') fun _ _ h => ⟨h.1, below_trans i2.b h.2⟩)
      have A1 := Lib.hid a1
      have A2 := Lib.hid a2
      have htt : totVs (l ++ m) = totVs l + totVs m := totVs_append l m
      clear a1 a2 i1 i2 h3
      generalize l ++ m = q at *
      by_cases hs : totVs q ≤ 2000
      · rw [decide_eq_true hs] at HSM
        have t1 : totVs l ≤ 1099511627776 := by omega
        have t2 : totVs m ≤ 1099511627776 := by omega
        have HF1 := Lib.hid (fun (W : World) (hb : Below w.heap.size w W) => (finel_any (h1.below hb) t1).mono (R' := fun e w' => e = .returned (.bool (fineL l)) ∧ Below w.heap.size w w') fun _ _ h => ⟨h.1, below_trans hb h.2⟩)
        have HF2 := Lib.hid (fun (W : World) (hb : Below w.heap.size w W) => (finel_any (h2.below hb) t2).mono (R' := fun e w' => e = .returned (.bool (fineL m)) ∧ Below w.heap.size w w') fun _ _ h => ⟨h.1, below_trans hb h.2⟩)
        have HC1 := Lib.hid (fun (W : World) (hb : Below w.heap.size w W) => (rows_any (hE.b hb) (h1.below hb) (h2.below hb) t1 t2).mono (R' := fun e w' => e = .returned (.int .i64 (rowsF l m)) ∧ Below w.heap.size w w') fun _ _ h => ⟨h.1, below_trans hb h.2⟩)
        have HC2 := Lib.hid (fun (W : World) (hb : Below w.heap.size w W) => (rows_any (hE.b hb) (h2.below hb) (h1.below hb) t2 t1).mono (R' := fun e w' => e = .returned (.int .i64 (rowsF m l)) ∧ Below w.heap.size w w') fun _ _ h => ⟨h.1, below_trans hb h.2⟩)
        cases f1 : fineL l with
        | false =>
          rw [rowsF_not (by rw [f1]; rfl)] at HC1
          rw [rowsF_not (by rw [f1]; simp)] at HC2
          rw [f1] at HF1
          clear hE h1 h2 htt hs t1 t2 f1 HF2
          go_enter Tryz.func9, Tryz.ntmps9
          go_wp2_with (first
            | (refine wpList_appendG rfl rfl rfl rfl A1.out ?_; clear A1)
            | (refine wpList_appendG rfl rfl rfl rfl A2.out ?_; clear A2)
            | (go_at_call 15; refine HSM.out.mono ?_; rintro e w9 ⟨rfl, hb⟩; have HB := Lib.hid hb; clear hb HSM)
            | (go_at_call 18; refine (HF1.out _ HB.out).mono ?_; rintro e w9 ⟨rfl, hb⟩; have HB := Lib.hid hb; clear hb HF1)
            | (go_at_call 18; refine (HF2.out _ HB.out).mono ?_; rintro e w9 ⟨rfl, hb⟩; have HB := Lib.hid hb; clear hb HF2)
            | (go_at_call 48; refine (HC1.out _ HB.out).mono ?_; rintro e w9 ⟨rfl, hb⟩; have HB := Lib.hid hb; clear hb HC1)
            | (go_at_call 48; refine (HC2.out _ HB.out).mono ?_; rintro e w9 ⟨rfl, hb⟩; have HB := Lib.hid hb; clear hb HC2)
            | (go_at_call 16; refine (HWK.out _ HB.out).mono ?_; rintro e w9 ⟨rfl, hb⟩; have HB := Lib.hid hb; clear hb))
          go_ret
          exact ⟨rfl, HB.out⟩
        | true =>
          cases f2 : fineL m with
          | false =>
            rw [rowsF_not (by rw [f2]; simp)] at HC1
            rw [rowsF_not (by rw [f2]; rfl)] at HC2
            rw [f1] at HF1
            rw [f2] at HF2
            clear hE h1 h2 htt hs t1 t2 f1 f2
            go_enter Tryz.func9, Tryz.ntmps9
            go_wp2_with (first
              | (refine wpList_appendG rfl rfl rfl rfl A1.out ?_; clear A1)
              | (refine wpList_appendG rfl rfl rfl rfl A2.out ?_; clear A2)
              | (go_at_call 15; refine HSM.out.mono ?_; rintro e w9 ⟨rfl, hb⟩; have HB := Lib.hid hb; clear hb HSM)
              | (go_at_call 18; refine (HF1.out _ HB.out).mono ?_; rintro e w9 ⟨rfl, hb⟩; have HB := Lib.hid hb; clear hb HF1)
              | (go_at_call 18; refine (HF2.out _ HB.out).mono ?_; rintro e w9 ⟨rfl, hb⟩; have HB := Lib.hid hb; clear hb HF2)
              | (go_at_call 48; refine (HC1.out _ HB.out).mono ?_; rintro e w9 ⟨rfl, hb⟩; have HB := Lib.hid hb; clear hb HC1)
              | (go_at_call 48; refine (HC2.out _ HB.out).mono ?_; rintro e w9 ⟨rfl, hb⟩; have HB := Lib.hid hb; clear hb HC2)
              | (go_at_call 16; refine (HWK.out _ HB.out).mono ?_; rintro e w9 ⟨rfl, hb⟩; have HB := Lib.hid hb; clear hb))
            go_ret
            exact ⟨rfl, HB.out⟩
          | true =>
            rw [rowsF_fine f1 f2] at HC1
            rw [rowsF_fine f2 f1, cmpL_neg] at HC2
            rw [f1] at HF1
            rw [f2] at HF2
            have HRW := Lib.hid (fun (W : World) (hb : Below w.heap.size w W) => (rowsR_with (h1.below hb) (h2.below hb) cmpV (fun a ha b hb x y W hx hy => compareR_any a (fineL_may f1 a ha) b (fineL_may f2 b hb) W x y hx hy)).mono (R' := fun e w' => e = .returned (.int .i64 (cmpL cmpV l m)) ∧ Below w.heap.size w w') fun _ _ h => ⟨h.1, below_trans hb h.2⟩)
            have hr := (ord_cmpL l fun a _ => ord_cmpV a).range m
            generalize cmpL cmpV l m = C at *
            clear hE h1 h2 htt hs t1 t2 f1 f2
            rcases hr with rfl | rfl | rfl
            all_goals
              go_enter Tryz.func9, Tryz.ntmps9
              go_wp2_with (first
                | (refine wpList_appendG rfl rfl rfl rfl A1.out ?_; clear A1)
                | (refine wpList_appendG rfl rfl rfl rfl A2.out ?_; clear A2)
                | (go_at_call 15; refine HSM.out.mono ?_; rintro e w9 ⟨rfl, hb⟩; have HB := Lib.hid hb; clear hb HSM)
                | (go_at_call 18; refine (HF1.out _ HB.out).mono ?_; rintro e w9 ⟨rfl, hb⟩; have HB := Lib.hid hb; clear hb HF1)
                | (go_at_call 18; refine (HF2.out _ HB.out).mono ?_; rintro e w9 ⟨rfl, hb⟩; have HB := Lib.hid hb; clear hb HF2)
                | (go_at_call 47; refine (HRW.out _ HB.out).mono ?_; rintro e w9 ⟨rfl, hb⟩; have HB := Lib.hid hb; clear hb HRW)
                | (go_at_call 48; refine (HC1.out _ HB.out).mono ?_; rintro e w9 ⟨rfl, hb⟩; have HB := Lib.hid hb; clear hb HC1)
                | (go_at_call 48; refine (HC2.out _ HB.out).mono ?_; rintro e w9 ⟨rfl, hb⟩; have HB := Lib.hid hb; clear hb HC2)
                | (go_at_call 16; refine (HWK.out _ HB.out).mono ?_; rintro e w9 ⟨rfl, hb⟩; have HB := Lib.hid hb; clear hb))
              go_ret
              exact ⟨rfl, HB.out⟩
      · rw [decide_eq_false hs] at HSM
        clear hE h1 h2 htt hs
        go_enter Tryz.func9, Tryz.ntmps9
        go_wp2_with (first
          | (refine wpList_appendG rfl rfl rfl rfl A1.out ?_; clear A1)
          | (refine wpList_appendG rfl rfl rfl rfl A2.out ?_; clear A2)
          | (go_at_call 15; refine HSM.out.mono ?_; rintro e w9 ⟨rfl, hb⟩; have HB0 := Lib.hid hb; clear hb)
          | (go_at_call 16; refine (HWK.out _ HB0.out).mono ?_; rintro e w9 ⟨rfl, hb⟩; have HB := Lib.hid hb; clear hb))
        go_ret
        exact ⟨rfl, HB.out⟩
end Go.Proofs.YtnkaegdnjfpliaaGreatDoor
