/- value.Compare, Same, Equal, Less. -/
import Derived.Test.YtnkaegdnjfpliaaGreatDoorVfine
namespace Go.Proofs.YtnkaegdnjfpliaaGreatDoor
set_option linter.unusedSimpArgs false
set_option linter.unusedVariables false
open Go.RowKit

theorem LRd.one {W : World} {g : Nat} {a : V} {c0 c1 c2 c3 c4 c5 : Value} (h : W.heap[g]? = some (.cells #[c0, c1, c2, c3, c4, c5] 26 (0, 0))) (ha : VRd W a #[c0, c1, c2, c3, c4, c5]) : LRd W (some ⟨g, 0, none⟩) 1 [a] := by
  refine ⟨⟨by simp, ⟨by simp, by omega⟩, fun e => by cases e⟩, fun ad had => ?_⟩
  cases had
  refine ⟨fun _ => rfl, fun j v hv => ?_⟩
  match j, hv with
  | 0, hv => cases hv; exact ⟨_, ⟨_, _, _, _, _, _, rfl, cellOf h rfl, cellOf h rfl, cellOf h rfl, cellOf h rfl, cellOf h rfl, cellOf h rfl⟩, ha⟩
  | j + 1, hv => simp at hv
theorem LRd.two {W : World} {g : Nat} {a b : V} {c0 c1 c2 c3 c4 c5 d0 d1 d2 d3 d4 d5 : Value} (h : W.heap[g]? = some (.cells #[c0, c1, c2, c3, c4, c5, d0, d1, d2, d3, d4, d5] 26 (0, 0))) (ha : VRd W a #[c0, c1, c2, c3, c4, c5]) (hb : VRd W b #[d0, d1, d2, d3, d4, d5]) : LRd W (some ⟨g, 0, none⟩) 2 [a, b] := by
  refine ⟨⟨by simp, ⟨by simp, by omega⟩, fun e => by cases e⟩, fun ad had => ?_⟩
  cases had
  refine ⟨fun _ => rfl, fun j v hv => ?_⟩
  match j, hv with
  | 0, hv => cases hv; exact ⟨_, ⟨_, _, _, _, _, _, rfl, cellOf h rfl, cellOf h rfl, cellOf h rfl, cellOf h rfl, cellOf h rfl, cellOf h rfl⟩, ha⟩
  | 1, hv => cases hv; exact ⟨_, ⟨_, _, _, _, _, _, rfl, cellOf h rfl, cellOf h rfl, cellOf h rfl, cellOf h rfl, cellOf h rfl, cellOf h rfl⟩, hb⟩
  | j + 2, hv => simp at hv
theorem okV_may {v : V} (h : okV v = true) : mayV Lib.validD v = true := by
  unfold okV checkV at h
  cases hm : mayV Lib.validD v with
  | true => rfl
  | false => rw [hm] at h; simp at h
/-- Two values behind a call of fine of both: the slice that was built, and what fine tells. -/
theorem fine_two {w W : World} {a b : V} {x0 x1 x2 x3 x4 x5 y0 y1 y2 y3 y4 y5 : Value} (hE : Env w) (hT : TwoV w W #[x0, x1, x2, x3, x4, x5] #[y0, y1, y2, y3, y4, y5]) (ha : VRd w a #[x0, x1, x2, x3, x4, x5]) (hb : VRd w b #[y0, y1, y2, y3, y4, y5]) (ht : totV a + totV b ≤ 1099511627776) :
    Calls Tryz.prog 62 #[.slice (some ⟨W.heap.size, 0, none⟩) 2 2] (W.alloc (.cells #[x0, x1, x2, x3, x4, x5, y0, y1, y2, y3, y4, y5] 26)) fun e w' => e = .returned (.bool (okV a && okV b)) ∧ TwoV w w' #[x0, x1, x2, x3, x4, x5] #[y0, y1, y2, y3, y4, y5] := by
  have hA := below_new (w := W) (.cells #[x0, x1, x2, x3, x4, x5, y0, y1, y2, y3, y4, y5] 26)
  have hT2 := hT.below hA
  have hL := LRd.two (heap_alloc_new W _) (ha.below hT2.2.2) (hb.below hT2.2.2)
  refine (fine_any (hE.b hT2.2.2) hL (by simp only [totVs]; omega)).mono ?_
  rintro e w' ⟨rfl, hb'⟩
  exact ⟨ret_bool (by simp [fineL]), hT2.below hb'⟩
set_option maxRecDepth 100000 in
set_option maxHeartbeats 2000000 in
theorem comparePub_any {a b : V} {w : World} {x y : Array Value} (hE : Env w) (ha : VRd w a x) (hb : VRd w b y) (ht : totV a + totV b ≤ 1099511627776) :
    Calls Tryz.prog 20 #[.agg x, .agg y] w fun e w' => e = .returned (.int .i64 (if okV a && okV b then cmpV a b else 0)) ∧ Below w.heap.size w w' := by
  have hT := TwoV.start w x y
  obtain ⟨pk, ck, pl, cl, rfl, _⟩ := ha.open
  obtain ⟨pk', ck', pl', cl', rfl, _⟩ := hb.open
  have hf := fine_two hE hT ha hb ht
  simp only [World.size_alloc] at hf
  have hcmp : ∀ {W : World}, okV a = true → okV b = true → Below w.heap.size w W → _ := fun {W} h1 h2 hbw => compare_any a (okV_may h1) b (okV_may h2) (ha.below hbw) (hb.below hbw)
  have HF := Lib.hid hf
  have HC := Lib.hid (fun (W : World) (h1 : okV a = true) (h2 : okV b = true) (hbw : Below w.heap.size w W) => hcmp h1 h2 hbw)
  clear hcmp hf hT hE ha hb ht
  generalize cmpV a b = R at *
  cases hok : (okV a && okV b) with
  | false =>
    rw [hok] at HF
    go_enter Tryz.func20, Tryz.ntmps20
    go_wp2_with (go_at_call 62; (refine HF.out.mono ?_; rintro e w1 ⟨rfl, hT1⟩; have HT := Lib.hid hT1; clear hT1))
    go_ret
    exact ⟨rfl, HT.out.2.2⟩
  | true =>
    rw [hok] at HF
    obtain ⟨h1, h2⟩ := Bool.and_eq_true_iff.1 hok
    go_enter Tryz.func20, Tryz.ntmps20
    go_wp2_with (first
      | (go_at_call 62
         (
           refine HF.out.mono ?_
           rintro e w1 ⟨rfl, hT1⟩
           have HT := Lib.hid hT1
           have HX := Lib.hid (get_val hT1.1)
           have HY := Lib.hid (get_val hT1.2.1)
           clear hT1))
      | (refine wpList_load rfl _ _ _ rfl rfl HX.out ?_)
      | (refine wpList_load rfl _ _ _ rfl rfl HY.out ?_)
      | (go_at_call 63
         (
           refine (HC.out _ h1 h2 HT.out.2.2).mono ?_
           rintro e w2 ⟨rfl, hb2⟩
           have HB := Lib.hid (below_trans HT.out.2.2 hb2)
           clear hb2)))
    go_ret
    exact ⟨rfl, HB.out⟩
set_option maxRecDepth 100000 in
set_option maxHeartbeats 2000000 in
theorem equalPub_any {a b : V} {w : World} {x y : Array Value} (hE : Env w) (ha : VRd w a x) (hb : VRd w b y) (ht : totV a + totV b ≤ 1099511627776) :
    Calls Tryz.prog 25 #[.agg x, .agg y] w fun e w' => e = .returned (.int .i64 (if okV a && okV b then eqV a b else 1)) ∧ Below w.heap.size w w' := by
  have hT := TwoV.start w x y
  obtain ⟨pk, ck, pl, cl, rfl, _⟩ := ha.open
  obtain ⟨pk', ck', pl', cl', rfl, _⟩ := hb.open
  have hf := fine_two hE hT ha hb ht
  simp only [World.size_alloc] at hf
  have hcmp : ∀ {W : World}, okV a = true → okV b = true → Below w.heap.size w W → _ := fun {W} h1 h2 hbw => equal_any a (okV_may h1) b (okV_may h2) (ha.below hbw) (hb.below hbw)
  have HF := Lib.hid hf
  have HC := Lib.hid (fun (W : World) (h1 : okV a = true) (h2 : okV b = true) (hbw : Below w.heap.size w W) => hcmp h1 h2 hbw)
  clear hcmp hf hT hE ha hb ht
  generalize eqV a b = R at *
  cases hok : (okV a && okV b) with
  | false =>
    rw [hok] at HF
    go_enter Tryz.func25, Tryz.ntmps25
    go_wp2_with (go_at_call 62; (refine HF.out.mono ?_; rintro e w1 ⟨rfl, hT1⟩; have HT := Lib.hid hT1; clear hT1))
    go_ret
    exact ⟨rfl, HT.out.2.2⟩
  | true =>
    rw [hok] at HF
    obtain ⟨h1, h2⟩ := Bool.and_eq_true_iff.1 hok
    go_enter Tryz.func25, Tryz.ntmps25
    go_wp2_with (first
      | (go_at_call 62
         (
           refine HF.out.mono ?_
           rintro e w1 ⟨rfl, hT1⟩
           have HT := Lib.hid hT1
           have HX := Lib.hid (get_val hT1.1)
           have HY := Lib.hid (get_val hT1.2.1)
           clear hT1))
      | (refine wpList_load rfl _ _ _ rfl rfl HX.out ?_)
      | (refine wpList_load rfl _ _ _ rfl rfl HY.out ?_)
      | (go_at_call 65
         (
           refine (HC.out _ h1 h2 HT.out.2.2).mono ?_
           rintro e w2 ⟨rfl, hb2⟩
           have HB := Lib.hid (below_trans HT.out.2.2 hb2)
           clear hb2)))
    go_ret
    exact ⟨rfl, HB.out⟩
set_option maxRecDepth 100000 in
set_option maxHeartbeats 2000000 in
theorem same_any {a b : V} {w : World} {x y : Array Value} (hE : Env w) (ha : VRd w a x) (hb : VRd w b y) (ht : totV a + totV b ≤ 1099511627776) :
    Calls Tryz.prog 21 #[.agg x, .agg y] w fun e w' => e = .returned (.bool (okV a && okV b && decide (cmpV a b = 0))) ∧ Below w.heap.size w w' := by
  have hT := TwoV.start w x y
  obtain ⟨pk, ck, pl, cl, rfl, _⟩ := ha.open
  obtain ⟨pk', ck', pl', cl', rfl, _⟩ := hb.open
  have hf := fine_two hE hT ha hb ht
  simp only [World.size_alloc] at hf
  have hcmp : ∀ {W : World}, okV a = true → okV b = true → Below w.heap.size w W → _ := fun {W} h1 h2 hbw => compare_any a (okV_may h1) b (okV_may h2) (ha.below hbw) (hb.below hbw)
  have HF := Lib.hid hf
  have HC := Lib.hid (fun (W : World) (h1 : okV a = true) (h2 : okV b = true) (hbw : Below w.heap.size w W) => hcmp h1 h2 hbw)
  clear hcmp hf hT hE ha hb ht
  generalize cmpV a b = R at *
  cases hok : (okV a && okV b) with
  | false =>
    rw [hok] at HF
    go_enter Tryz.func21, Tryz.ntmps21
    go_wp2_with (go_at_call 62; (refine HF.out.mono ?_; rintro e w1 ⟨rfl, hT1⟩; have HT := Lib.hid hT1; clear hT1))
    go_ret
    exact ⟨rfl, HT.out.2.2⟩
  | true =>
    rw [hok] at HF
    obtain ⟨h1, h2⟩ := Bool.and_eq_true_iff.1 hok
    go_enter Tryz.func21, Tryz.ntmps21
    go_wp2_with (first
      | (go_at_call 62
         (
           refine HF.out.mono ?_
           rintro e w1 ⟨rfl, hT1⟩
           have HT := Lib.hid hT1
           have p0 := cellOf (o := 0) hT1.1 rfl
           have p1 := cellOf (o := 1) hT1.1 rfl
           have p2 := cellOf (o := 2) hT1.1 rfl
           have p3 := cellOf (o := 3) hT1.1 rfl
           have p4 := cellOf (o := 4) hT1.1 rfl
           have p5 := cellOf (o := 5) hT1.1 rfl
           have r0 := cellOf (o := 0) hT1.2.1 rfl
           have r1 := cellOf (o := 1) hT1.2.1 rfl
           have r2 := cellOf (o := 2) hT1.2.1 rfl
           have r3 := cellOf (o := 3) hT1.2.1 rfl
           have r4 := cellOf (o := 4) hT1.2.1 rfl
           have r5 := cellOf (o := 5) hT1.2.1 rfl
           clear hT1))
      | (go_at_call 63
         (
           refine (HC.out _ h1 h2 HT.out.2.2).mono ?_
           rintro e w2 ⟨rfl, hb2⟩
           have HB := Lib.hid (below_trans HT.out.2.2 hb2)
           clear hb2)))
    go_ret
    exact ⟨ret_bool (by simp; rfl), HB.out⟩
/-- What Less tells. -/
def lessV (a b : V) : Int := if okV a && okV b && a.kind == b.kind && (a.kind == 2 || a.kind == 3 || a.kind == 1) then truthN (decide (cmpV a b < 0)) else 1
set_option maxRecDepth 100000 in
set_option maxHeartbeats 4000000 in
theorem less_any {a b : V} {w : World} {x y : Array Value} (hE : Env w) (ha : VRd w a x) (hb : VRd w b y) (ht : totV a + totV b ≤ 1099511627776) :
    Calls Tryz.prog 26 #[.agg x, .agg y] w fun e w' => e = .returned (.int .i64 (lessV a b)) ∧ Below w.heap.size w w' := by
  have hT := TwoV.start w x y
  obtain ⟨pk, ck, pl, cl, rfl, _⟩ := ha.open
  obtain ⟨pk', ck', pl', cl', rfl, _⟩ := hb.open
  have hf := fine_two hE hT ha hb ht
  simp only [World.size_alloc] at hf
  have hcmp : ∀ {W : World}, okV a = true → okV b = true → Below w.heap.size w W → _ := fun {W} h1 h2 hbw => compare_any a (okV_may h1) b (okV_may h2) (ha.below hbw) (hb.below hbw)
  have HF := Lib.hid hf
  have HC := Lib.hid (fun (W : World) (h1 : okV a = true) (h2 : okV b = true) (hbw : Below w.heap.size w W) => hcmp h1 h2 hbw)
  have HR := Lib.hid (show lessV a b = if okV a && okV b && a.kind == b.kind && (a.kind == 2 || a.kind == 3 || a.kind == 1) then truthN (decide (cmpV a b < 0)) else 1 from rfl)
  clear hcmp hf hT hE ha hb ht
  generalize lessV a b = L at *
  generalize cmpV a b = R at *
  cases hok : (okV a && okV b) with
  | false =>
    rw [hok] at HF HR
    go_enter Tryz.func26, Tryz.ntmps26
    go_wp2_with (go_at_call 62; (refine HF.out.mono ?_; rintro e w1 ⟨rfl, hT1⟩; have HT := Lib.hid hT1; clear hT1))
    go_ret
    exact ⟨ret_int (by rw [HR.out]; rfl), HT.out.2.2⟩
  | true =>
    rw [hok] at HF HR
    obtain ⟨h1, h2⟩ := Bool.and_eq_true_iff.1 hok
    clear hok
    by_cases hk : a.kind = b.kind
    case neg =>
      have dk : (a.kind == b.kind) = false := by simpa using hk
      have dk2 : (a.kind != b.kind) = true := by simpa using hk
      have HR2 := Lib.hid (show L = 1 by rw [HR.out, dk]; rfl)
      clear hk HR
      go_enter Tryz.func26, Tryz.ntmps26
      go_wp2_with (go_at_call 62
                   (
                     refine HF.out.mono ?_
                     rintro e w1 ⟨rfl, hT1⟩
                     have p0 := cellOf (o := 0) hT1.1 rfl
                     have r0 := cellOf (o := 0) hT1.2.1 rfl
                     have HT := Lib.hid hT1
                     clear hT1))
      go_ret
      exact ⟨ret_int HR2.out.symm, HT.out.2.2⟩
    have dk2 : (a.kind != b.kind) = false := by simpa using hk
    have dk : (a.kind == b.kind) = true := by simpa using hk
    rw [dk] at HR
    clear dk hk
    by_cases h3 : a.kind = 2 ∨ a.kind = 3 ∨ a.kind = 1
    · have HR2 := Lib.hid (show L = truthN (decide (R < 0)) by
        rw [HR.out]
        rcases h3 with h | h | h <;> rw [h] <;> rfl)
      clear HR
      generalize a.kind = ka at *
      rcases h3 with rfl | rfl | rfl
      all_goals
        go_enter Tryz.func26, Tryz.ntmps26
        go_wp2_with (first
          | (go_at_call 62
             (
               refine HF.out.mono ?_
               rintro e w1 ⟨rfl, hT1⟩
               have p0 := cellOf (o := 0) hT1.1 rfl
               have r0 := cellOf (o := 0) hT1.2.1 rfl
               have HX := Lib.hid (get_val hT1.1)
               have HY := Lib.hid (get_val hT1.2.1)
               have HT := Lib.hid hT1
               clear hT1))
          | (refine wpList_load rfl _ _ _ rfl rfl HX.out ?_)
          | (refine wpList_load rfl _ _ _ rfl rfl HY.out ?_)
          | (go_at_call 63
             (
               refine (HC.out _ h1 h2 HT.out.2.2).mono ?_
               rintro e w2 ⟨rfl, hb2⟩
               have HB := Lib.hid (below_trans HT.out.2.2 hb2)
               clear hb2))
          | (go_at_call 66; refine (truth_any _ _).mono ?_; rintro e w' ⟨rfl, rfl⟩))
        go_ret
        exact ⟨ret_int HR2.out.symm, HB.out⟩
    · have d1 : (a.kind == 1) = false := by rw [beq_eq_false_iff_ne]; omega
      have d2 : (a.kind == 2) = false := by rw [beq_eq_false_iff_ne]; omega
      have d3 : (a.kind == 3) = false := by rw [beq_eq_false_iff_ne]; omega
      have HR2 := Lib.hid (show L = 1 by rw [HR.out, d1, d2, d3]; rfl)
      clear h3 HR
      go_enter Tryz.func26, Tryz.ntmps26
      go_wp2_with (go_at_call 62
                   (
                     refine HF.out.mono ?_
                     rintro e w1 ⟨rfl, hT1⟩
                     have p0 := cellOf (o := 0) hT1.1 rfl
                     have r0 := cellOf (o := 0) hT1.2.1 rfl
                     have HT := Lib.hid hT1
                     clear hT1))
      go_ret
      exact ⟨ret_int HR2.out.symm, HT.out.2.2⟩
end Go.Proofs.YtnkaegdnjfpliaaGreatDoor
