/- value.CompareRows, value.Storable. Printed by gen_stor.py. -/
import Derived.Test.YtnkaegdnjfpliaaGreatDoorVpub
namespace Go.Proofs.YtnkaegdnjfpliaaGreatDoor
set_option linter.unusedSimpArgs false
set_option linter.unusedVariables false
open Go.RowKit

/-- What CompareRows tells. -/
def rowsF (l m : List V) : Int := if fineL l && fineL m then cmpL cmpV l m else 0
theorem fineL_may {l : List V} (h : fineL l = true) : ∀ v ∈ l, mayV Lib.validD v = true := by
  intro v hv
  unfold fineL at h
  rw [List.all_eq_true] at h
  exact okV_may (h v hv)
set_option maxRecDepth 100000 in
set_option maxHeartbeats 2000000 in
theorem rows_any {w : World} {p1 p2 : Option Addr} {c1 c2 : Nat} {l m : List V} (hE : Env w) (h1 : LRd w p1 c1 l) (h2 : LRd w p2 c2 m) (t1 : totVs l ≤ 1099511627776) (t2 : totVs m ≤ 1099511627776) :
    Calls Tryz.prog 48 #[.slice p1 l.length c1, .slice p2 m.length c2] w fun e w' => e = .returned (.int .i64 (rowsF l m)) ∧ Below w.heap.size w w' := by
  have HF1 := Lib.hid (fine_any hE h1 t1)
  have HF2 := Lib.hid (fun (W : World) (hb : Below w.heap.size w W) => fine_any (hE.b hb) (h2.below hb) t2)
  have HC := Lib.hid (fun (W : World) (hb : Below w.heap.size w W) (f1 : fineL l = true) (f2 : fineL m = true) => listsV_any (h1.below hb) (h2.below hb) cmpV (fun a ha b hb x y W' hx hy => compare_any a (fineL_may f1 a ha) b (fineL_may f2 b hb) hx hy))
  have HR := Lib.hid (show rowsF l m = if fineL l && fineL m then cmpL cmpV l m else 0 from rfl)
  generalize rowsF l m = R at *
  generalize cmpL cmpV l m = C at *
  clear hE h1 h2 t1 t2
  generalize fineL l = f1 at *
  generalize fineL m = f2 at *
  cases f1 with
  | false =>
    go_enter Tryz.func48, Tryz.ntmps48
    have hR : R = 0 := by rw [HR.out]; rfl
    clear HR HC
    go_wp2_with (first
      | (go_at_call 62; refine HF1.out.mono ?_; rintro e w1 ⟨rfl, hb⟩; have HB := Lib.hid hb; clear hb HF1)
      | (go_at_call 62; refine (HF2.out _ HB.out).mono ?_; rintro e w2 ⟨rfl, hb⟩; have HB2 := Lib.hid (below_trans HB.out hb); clear hb HF2))
    go_ret
    exact ⟨ret_int hR.symm, HB.out⟩
  | true =>
    cases f2 with
    | false =>
      go_enter Tryz.func48, Tryz.ntmps48
      go_wp2_with (first
        | (go_at_call 62; refine HF1.out.mono ?_; rintro e w1 ⟨rfl, hb⟩; have HB := Lib.hid hb; clear hb HF1)
        | (go_at_call 62; refine (HF2.out _ HB.out).mono ?_; rintro e w2 ⟨rfl, hb⟩; have HB2 := Lib.hid (below_trans HB.out hb); clear hb HF2))
      go_ret
      exact ⟨ret_int (by rw [HR.out]; rfl), HB2.out⟩
    | true =>
      go_enter Tryz.func48, Tryz.ntmps48
      go_wp2_with (first
        | (go_at_call 62; refine HF1.out.mono ?_; rintro e w1 ⟨rfl, hb⟩; have HB := Lib.hid hb; clear hb HF1)
        | (go_at_call 62; refine (HF2.out _ HB.out).mono ?_; rintro e w2 ⟨rfl, hb⟩; have HB2 := Lib.hid (below_trans HB.out hb); clear hb HF2)
        | (go_at_call 87; refine (HC.out _ HB2.out (by simp) (by simp)).mono ?_; rintro e w3 ⟨rfl, hb⟩; have HB3 := Lib.hid (below_trans HB2.out hb); clear hb))
      go_ret
      exact ⟨ret_int (by rw [HR.out]; rfl), HB3.out⟩

/-- May a value of a kind be stored beside one of a kind? -/
def badB (k k0 : Int) : Bool := decide (k ≠ k0) || decide (k < 1) || decide (3 < k)
/-- May a value be stored, where it may be? -/
def storL (l : List V) : Bool := l.all fun x => !(badB x.kind ((l.map V.kind).headD 0))
def storB (v : V) : Bool := storL (if v.kind = 4 then v.list else [v])
theorem fa_first (y o : Nat) (W : World) : (Instr.fieldAt 26 (.pointer (some ⟨y, o, none⟩)) 0).run Tryz.prog W = .ok (.pointer (some ⟨y, o, none⟩)) W := by
  simp [go_sem]
theorem ia_first (g o n c : Nat) (h : 0 < n) (W : World) : (Instr.indexAt 24 (.slice (some ⟨g, o, none⟩) n c) (.int .i64 0)).run Tryz.prog W = .ok (.pointer (some ⟨g, o, none⟩)) W := by
  simp [go_sem, h, addr_add]
/-- What lies in a box of a slice. -/
structure BoxL (w : World) (b g o n c : Nat) (k0 : Int) (x : Array Value) (W : World) : Prop where
  box : W.heap[b]? = some (.cells #[.slice (some ⟨g, o, none⟩) n c] 24 (0, 0))
  first : W.cell? ⟨g, o, none⟩ = some (.int .i64 k0)
  one : W.heap[w.heap.size]? = some (.cells x 26 (0, 0))
  below : Below w.heap.size w W
set_option maxRecDepth 100000 in
set_option maxHeartbeats 2000000 in
theorem bad_any {w : World} {v : V} {x : Array Value} {b g o n c : Nat} {k0 : Int} (hx : VRd w v x) (hb : w.heap[b]? = some (.cells #[.slice (some ⟨g, o, none⟩) n c] 24 (0, 0))) (hk : w.cell? ⟨g, o, none⟩ = some (.int .i64 k0)) (hn : 0 < n) :
    Calls Tryz.prog 89 #[.agg x, .pointer (some ⟨b, 0, none⟩)] w fun e w' => e = .returned (.bool (badB v.kind k0)) ∧ Below w.heap.size w w' := by
  obtain ⟨pk, ck, pl, cl, rfl, _⟩ := hx.open
  have hT : BoxL w b g o n c k0 #[.int .i64 v.kind, .bool v.b, .int .i64 v.n, .string (strB v.text), .slice pk v.keys.length ck, .slice pl v.list.length cl] (w.alloc (.cells #[.int .i64 v.kind, .bool v.b, .int .i64 v.n, .string (strB v.text), .slice pk v.keys.length ck, .slice pl v.list.length cl] 26)) :=
    ⟨belowBlk (below_new _) (Array.getElem?_eq_some_iff.1 hb).1 hb, belowCell (below_new _) (ltOf hk) hk, heap_alloc_new w _, below_new _⟩
  have HR := Lib.hid (show badB v.kind k0 = (decide (v.kind ≠ k0) || decide (v.kind < 1) || decide (3 < v.kind)) from rfl)
  generalize badB v.kind k0 = R at *
  generalize v.kind = k at *
  have HT := Lib.hid hT
  clear hx hb hk hT
  go_enter Tryz.func89, Tryz.ntmps89
  go_wp2
  have hT := HT.out
  generalize w.alloc _ = W0 at *
  have hT0 : BoxL w b g o n c k0 #[.int .i64 k, .bool v.b, .int .i64 v.n, .string (strB v.text), .slice pk v.keys.length ck, .slice pl v.list.length cl] W0.drew := ⟨hT.box, hT.first, hT.one, hT.below.drew⟩
  by_cases h1 : k = k0
  · have hne : ∀ W : World, (binOp .neq 22 (.int .i64 k) (.int .i64 k0)).run Tryz.prog W = .ok (.bool false) W := by
      intro W; simp [go_sem, h1]
    by_cases h2 : k < 1
    · have hlt : ∀ W : World, (binOp .lss 22 (.int .i64 k) (.int .i64 1)).run Tryz.prog W = .ok (.bool true) W := by
        intro W; simp [go_sem, h2]
      refine plain_region_draws (fun W => BoxL w b g o n c k0 #[.int .i64 k, .bool v.b, .int .i64 v.n, .string (strB v.text), .slice pk v.keys.length ck, .slice pl v.list.length cl] W) (by kernel_rfl) hT0 (fun hU0 => ?_)
      refine take 0 4 (v := .pointer (some ⟨w.heap.size, 0, none⟩)) rfl rfl (by kernel_rfl) (by kernel_rfl) (by kernel_rfl) rfl (fun W hW => exec_fieldAddr rfl rfl (fa_value _ _ (by decide) W)) (by assumption) ?_
      simp only [Act.put, List.setIfInBounds_toArray, List.set_cons_zero, List.set_cons_succ]
      refine take 1 5 (v := .int .i64 k) rfl rfl (by kernel_rfl) (by kernel_rfl) (by kernel_rfl) rfl (fun W hW => exec_load rfl rfl (run_load1 (w := W) Tryz.underlying22 rfl (cellOf hW.one rfl))) (by assumption) ?_
      simp only [Act.put, List.setIfInBounds_toArray, List.set_cons_zero, List.set_cons_succ]
      refine take 2 6 (v := .slice (some ⟨g, o, none⟩) n c) rfl rfl (by kernel_rfl) (by kernel_rfl) (by kernel_rfl) rfl (fun W hW => exec_load rfl rfl (run_load1 (w := W) Tryz.underlying24 rfl (cellOf hW.box rfl))) (by assumption) ?_
      simp only [Act.put, List.setIfInBounds_toArray, List.set_cons_zero, List.set_cons_succ]
      refine take 3 7 (v := .pointer (some ⟨g, o, none⟩)) rfl rfl (by kernel_rfl) (by kernel_rfl) (by kernel_rfl) rfl (fun W hW => exec_indexAddr rfl rfl rfl (ia_first _ _ _ _ hn W)) (by assumption) ?_
      simp only [Act.put, List.setIfInBounds_toArray, List.set_cons_zero, List.set_cons_succ]
      refine take 4 8 (v := .pointer (some ⟨g, o, none⟩)) rfl rfl (by kernel_rfl) (by kernel_rfl) (by kernel_rfl) rfl (fun W hW => exec_fieldAddr rfl rfl (fa_first _ _ W)) (by assumption) ?_
      simp only [Act.put, List.setIfInBounds_toArray, List.set_cons_zero, List.set_cons_succ]
      refine take 5 9 (v := .int .i64 k0) rfl rfl (by kernel_rfl) (by kernel_rfl) (by kernel_rfl) rfl (fun W hW => exec_load rfl rfl (run_load1 (w := W) Tryz.underlying22 rfl hW.first)) (by assumption) ?_
      simp only [Act.put, List.setIfInBounds_toArray, List.set_cons_zero, List.set_cons_succ]
      refine take 6 10 (v := .bool false) rfl rfl (by kernel_rfl) (by kernel_rfl) (by kernel_rfl) rfl (fun W hW => exec_bini rfl rfl rfl (hne W)) (by assumption) ?_
      simp only [Act.put, List.setIfInBounds_toArray, List.set_cons_zero, List.set_cons_succ]
      refine take 7 11 (v := .bool false) rfl rfl (by kernel_rfl) (by kernel_rfl) (by kernel_rfl) rfl (fun W hW => exec_move rfl rfl) (by assumption) ?_
      simp only [Act.put, List.setIfInBounds_toArray, List.set_cons_zero, List.set_cons_succ]
      refine take 8 12 (v := .pointer (some ⟨w.heap.size, 0, none⟩)) rfl rfl (by kernel_rfl) (by kernel_rfl) (by kernel_rfl) rfl (fun W hW => exec_fieldAddr rfl rfl (fa_value _ _ (by decide) W)) (by assumption) ?_
      simp only [Act.put, List.setIfInBounds_toArray, List.set_cons_zero, List.set_cons_succ]
      refine take 9 13 (v := .int .i64 k) rfl rfl (by kernel_rfl) (by kernel_rfl) (by kernel_rfl) rfl (fun W hW => exec_load rfl rfl (run_load1 (w := W) Tryz.underlying22 rfl (cellOf hW.one rfl))) (by assumption) ?_
      simp only [Act.put, List.setIfInBounds_toArray, List.set_cons_zero, List.set_cons_succ]
      refine take 10 14 (v := .bool true) rfl rfl (by kernel_rfl) (by kernel_rfl) (by kernel_rfl) rfl (fun W hW => exec_bini rfl rfl rfl (hlt W)) (by assumption) ?_
      simp only [Act.put, List.setIfInBounds_toArray, List.set_cons_zero, List.set_cons_succ]
      refine take 11 15 (v := .bool true) rfl rfl (by kernel_rfl) (by kernel_rfl) (by kernel_rfl) rfl (fun W hW => rfl) (by assumption) ?_
      simp only [Act.put, List.setIfInBounds_toArray, List.set_cons_zero, List.set_cons_succ]
      refine take 12 16 (v := .bool true) rfl rfl (by kernel_rfl) (by kernel_rfl) (by kernel_rfl) rfl (fun W hW => exec_move rfl rfl) (by assumption) ?_
      simp only [Act.put, List.setIfInBounds_toArray, List.set_cons_zero, List.set_cons_succ]
      refine takeNot 13 17 rfl rfl (by kernel_rfl) (by kernel_rfl) (by kernel_rfl) rfl (by assumption) ?_
      simp only [Act.put, List.setIfInBounds_toArray, List.set_cons_zero, List.set_cons_succ]
      refine takeNot 14 18 rfl rfl (by kernel_rfl) (by kernel_rfl) (by kernel_rfl) rfl (by assumption) ?_
      simp only [Act.put, List.setIfInBounds_toArray, List.set_cons_zero, List.set_cons_succ]
      refine takeNot 15 19 rfl rfl (by kernel_rfl) (by kernel_rfl) (by kernel_rfl) rfl (by assumption) ?_
      simp only [Act.put, List.setIfInBounds_toArray, List.set_cons_zero, List.set_cons_succ]
      refine take 16 20 (v := .bool true) rfl rfl (by kernel_rfl) (by kernel_rfl) (by kernel_rfl) rfl (fun W hW => rfl) (by assumption) ?_
      simp only [Act.put, List.setIfInBounds_toArray, List.set_cons_zero, List.set_cons_succ]
      refine take 17 3 (v := .bool true) rfl rfl (by kernel_rfl) (by kernel_rfl) (by kernel_rfl) rfl (fun W hW => exec_assign rfl rfl) (by assumption) ?_
      simp only [Act.put, List.setIfInBounds_toArray, List.set_cons_zero, List.set_cons_succ]
      refine done (by kernel_rfl) ?_ _
      go_wp2
      go_ret
      exact ⟨ret_bool (by rw [HR.out]; simp [h2]), hU0.below⟩
    · have hlt : ∀ W : World, (binOp .lss 22 (.int .i64 k) (.int .i64 1)).run Tryz.prog W = .ok (.bool false) W := by
        intro W; simp [go_sem]; omega
      have hgt : ∀ W : World, (binOp .gtr 22 (.int .i64 k) (.int .i64 3)).run Tryz.prog W = .ok (.bool (decide (3 < k))) W := by
        intro W; simp [go_sem]
      refine plain_region_draws (fun W => BoxL w b g o n c k0 #[.int .i64 k, .bool v.b, .int .i64 v.n, .string (strB v.text), .slice pk v.keys.length ck, .slice pl v.list.length cl] W) (by kernel_rfl) hT0 (fun hU0 => ?_)
      refine take 0 4 (v := .pointer (some ⟨w.heap.size, 0, none⟩)) rfl rfl (by kernel_rfl) (by kernel_rfl) (by kernel_rfl) rfl (fun W hW => exec_fieldAddr rfl rfl (fa_value _ _ (by decide) W)) (by assumption) ?_
      simp only [Act.put, List.setIfInBounds_toArray, List.set_cons_zero, List.set_cons_succ]
      refine take 1 5 (v := .int .i64 k) rfl rfl (by kernel_rfl) (by kernel_rfl) (by kernel_rfl) rfl (fun W hW => exec_load rfl rfl (run_load1 (w := W) Tryz.underlying22 rfl (cellOf hW.one rfl))) (by assumption) ?_
      simp only [Act.put, List.setIfInBounds_toArray, List.set_cons_zero, List.set_cons_succ]
      refine take 2 6 (v := .slice (some ⟨g, o, none⟩) n c) rfl rfl (by kernel_rfl) (by kernel_rfl) (by kernel_rfl) rfl (fun W hW => exec_load rfl rfl (run_load1 (w := W) Tryz.underlying24 rfl (cellOf hW.box rfl))) (by assumption) ?_
      simp only [Act.put, List.setIfInBounds_toArray, List.set_cons_zero, List.set_cons_succ]
      refine take 3 7 (v := .pointer (some ⟨g, o, none⟩)) rfl rfl (by kernel_rfl) (by kernel_rfl) (by kernel_rfl) rfl (fun W hW => exec_indexAddr rfl rfl rfl (ia_first _ _ _ _ hn W)) (by assumption) ?_
      simp only [Act.put, List.setIfInBounds_toArray, List.set_cons_zero, List.set_cons_succ]
      refine take 4 8 (v := .pointer (some ⟨g, o, none⟩)) rfl rfl (by kernel_rfl) (by kernel_rfl) (by kernel_rfl) rfl (fun W hW => exec_fieldAddr rfl rfl (fa_first _ _ W)) (by assumption) ?_
      simp only [Act.put, List.setIfInBounds_toArray, List.set_cons_zero, List.set_cons_succ]
      refine take 5 9 (v := .int .i64 k0) rfl rfl (by kernel_rfl) (by kernel_rfl) (by kernel_rfl) rfl (fun W hW => exec_load rfl rfl (run_load1 (w := W) Tryz.underlying22 rfl hW.first)) (by assumption) ?_
      simp only [Act.put, List.setIfInBounds_toArray, List.set_cons_zero, List.set_cons_succ]
      refine take 6 10 (v := .bool false) rfl rfl (by kernel_rfl) (by kernel_rfl) (by kernel_rfl) rfl (fun W hW => exec_bini rfl rfl rfl (hne W)) (by assumption) ?_
      simp only [Act.put, List.setIfInBounds_toArray, List.set_cons_zero, List.set_cons_succ]
      refine take 7 11 (v := .bool false) rfl rfl (by kernel_rfl) (by kernel_rfl) (by kernel_rfl) rfl (fun W hW => exec_move rfl rfl) (by assumption) ?_
      simp only [Act.put, List.setIfInBounds_toArray, List.set_cons_zero, List.set_cons_succ]
      refine take 8 12 (v := .pointer (some ⟨w.heap.size, 0, none⟩)) rfl rfl (by kernel_rfl) (by kernel_rfl) (by kernel_rfl) rfl (fun W hW => exec_fieldAddr rfl rfl (fa_value _ _ (by decide) W)) (by assumption) ?_
      simp only [Act.put, List.setIfInBounds_toArray, List.set_cons_zero, List.set_cons_succ]
      refine take 9 13 (v := .int .i64 k) rfl rfl (by kernel_rfl) (by kernel_rfl) (by kernel_rfl) rfl (fun W hW => exec_load rfl rfl (run_load1 (w := W) Tryz.underlying22 rfl (cellOf hW.one rfl))) (by assumption) ?_
      simp only [Act.put, List.setIfInBounds_toArray, List.set_cons_zero, List.set_cons_succ]
      refine take 10 14 (v := .bool false) rfl rfl (by kernel_rfl) (by kernel_rfl) (by kernel_rfl) rfl (fun W hW => exec_bini rfl rfl rfl (hlt W)) (by assumption) ?_
      simp only [Act.put, List.setIfInBounds_toArray, List.set_cons_zero, List.set_cons_succ]
      refine take 11 15 (v := .bool false) rfl rfl (by kernel_rfl) (by kernel_rfl) (by kernel_rfl) rfl (fun W hW => rfl) (by assumption) ?_
      simp only [Act.put, List.setIfInBounds_toArray, List.set_cons_zero, List.set_cons_succ]
      refine take 12 16 (v := .bool false) rfl rfl (by kernel_rfl) (by kernel_rfl) (by kernel_rfl) rfl (fun W hW => exec_move rfl rfl) (by assumption) ?_
      simp only [Act.put, List.setIfInBounds_toArray, List.set_cons_zero, List.set_cons_succ]
      refine take 13 17 (v := .pointer (some ⟨w.heap.size, 0, none⟩)) rfl rfl (by kernel_rfl) (by kernel_rfl) (by kernel_rfl) rfl (fun W hW => exec_fieldAddr rfl rfl (fa_value _ _ (by decide) W)) (by assumption) ?_
      simp only [Act.put, List.setIfInBounds_toArray, List.set_cons_zero, List.set_cons_succ]
      refine take 14 18 (v := .int .i64 k) rfl rfl (by kernel_rfl) (by kernel_rfl) (by kernel_rfl) rfl (fun W hW => exec_load rfl rfl (run_load1 (w := W) Tryz.underlying22 rfl (cellOf hW.one rfl))) (by assumption) ?_
      simp only [Act.put, List.setIfInBounds_toArray, List.set_cons_zero, List.set_cons_succ]
      refine take 15 19 (v := .bool (decide (3 < k))) rfl rfl (by kernel_rfl) (by kernel_rfl) (by kernel_rfl) rfl (fun W hW => exec_bini rfl rfl rfl (hgt W)) (by assumption) ?_
      simp only [Act.put, List.setIfInBounds_toArray, List.set_cons_zero, List.set_cons_succ]
      refine take 16 20 (v := .bool (decide (3 < k))) rfl rfl (by kernel_rfl) (by kernel_rfl) (by kernel_rfl) rfl (fun W hW => rfl) (by assumption) ?_
      simp only [Act.put, List.setIfInBounds_toArray, List.set_cons_zero, List.set_cons_succ]
      refine take 17 3 (v := .bool (decide (3 < k))) rfl rfl (by kernel_rfl) (by kernel_rfl) (by kernel_rfl) rfl (fun W hW => exec_assign rfl rfl) (by assumption) ?_
      simp only [Act.put, List.setIfInBounds_toArray, List.set_cons_zero, List.set_cons_succ]
      refine done (by kernel_rfl) ?_ _
      go_wp2
      go_ret
      exact ⟨ret_bool (by rw [HR.out, show decide (k ≠ k0) = false by simp [h1], show decide (k < 1) = false by simp; omega]; simp; omega), hU0.below⟩
  · have hne : ∀ W : World, (binOp .neq 22 (.int .i64 k) (.int .i64 k0)).run Tryz.prog W = .ok (.bool true) W := by
      intro W; simp [go_sem, h1]
    refine plain_region_draws (fun W => BoxL w b g o n c k0 #[.int .i64 k, .bool v.b, .int .i64 v.n, .string (strB v.text), .slice pk v.keys.length ck, .slice pl v.list.length cl] W) (by kernel_rfl) hT0 (fun hU0 => ?_)
    refine take 0 4 (v := .pointer (some ⟨w.heap.size, 0, none⟩)) rfl rfl (by kernel_rfl) (by kernel_rfl) (by kernel_rfl) rfl (fun W hW => exec_fieldAddr rfl rfl (fa_value _ _ (by decide) W)) (by assumption) ?_
    simp only [Act.put, List.setIfInBounds_toArray, List.set_cons_zero, List.set_cons_succ]
    refine take 1 5 (v := .int .i64 k) rfl rfl (by kernel_rfl) (by kernel_rfl) (by kernel_rfl) rfl (fun W hW => exec_load rfl rfl (run_load1 (w := W) Tryz.underlying22 rfl (cellOf hW.one rfl))) (by assumption) ?_
    simp only [Act.put, List.setIfInBounds_toArray, List.set_cons_zero, List.set_cons_succ]
    refine take 2 6 (v := .slice (some ⟨g, o, none⟩) n c) rfl rfl (by kernel_rfl) (by kernel_rfl) (by kernel_rfl) rfl (fun W hW => exec_load rfl rfl (run_load1 (w := W) Tryz.underlying24 rfl (cellOf hW.box rfl))) (by assumption) ?_
    simp only [Act.put, List.setIfInBounds_toArray, List.set_cons_zero, List.set_cons_succ]
    refine take 3 7 (v := .pointer (some ⟨g, o, none⟩)) rfl rfl (by kernel_rfl) (by kernel_rfl) (by kernel_rfl) rfl (fun W hW => exec_indexAddr rfl rfl rfl (ia_first _ _ _ _ hn W)) (by assumption) ?_
    simp only [Act.put, List.setIfInBounds_toArray, List.set_cons_zero, List.set_cons_succ]
    refine take 4 8 (v := .pointer (some ⟨g, o, none⟩)) rfl rfl (by kernel_rfl) (by kernel_rfl) (by kernel_rfl) rfl (fun W hW => exec_fieldAddr rfl rfl (fa_first _ _ W)) (by assumption) ?_
    simp only [Act.put, List.setIfInBounds_toArray, List.set_cons_zero, List.set_cons_succ]
    refine take 5 9 (v := .int .i64 k0) rfl rfl (by kernel_rfl) (by kernel_rfl) (by kernel_rfl) rfl (fun W hW => exec_load rfl rfl (run_load1 (w := W) Tryz.underlying22 rfl hW.first)) (by assumption) ?_
    simp only [Act.put, List.setIfInBounds_toArray, List.set_cons_zero, List.set_cons_succ]
    refine take 6 10 (v := .bool true) rfl rfl (by kernel_rfl) (by kernel_rfl) (by kernel_rfl) rfl (fun W hW => exec_bini rfl rfl rfl (hne W)) (by assumption) ?_
    simp only [Act.put, List.setIfInBounds_toArray, List.set_cons_zero, List.set_cons_succ]
    refine take 7 11 (v := .bool true) rfl rfl (by kernel_rfl) (by kernel_rfl) (by kernel_rfl) rfl (fun W hW => exec_move rfl rfl) (by assumption) ?_
    simp only [Act.put, List.setIfInBounds_toArray, List.set_cons_zero, List.set_cons_succ]
    refine takeNot 8 12 rfl rfl (by kernel_rfl) (by kernel_rfl) (by kernel_rfl) rfl (by assumption) ?_
    simp only [Act.put, List.setIfInBounds_toArray, List.set_cons_zero, List.set_cons_succ]
    refine takeNot 9 13 rfl rfl (by kernel_rfl) (by kernel_rfl) (by kernel_rfl) rfl (by assumption) ?_
    simp only [Act.put, List.setIfInBounds_toArray, List.set_cons_zero, List.set_cons_succ]
    refine takeNot 10 14 rfl rfl (by kernel_rfl) (by kernel_rfl) (by kernel_rfl) rfl (by assumption) ?_
    simp only [Act.put, List.setIfInBounds_toArray, List.set_cons_zero, List.set_cons_succ]
    refine take 11 15 (v := .bool true) rfl rfl (by kernel_rfl) (by kernel_rfl) (by kernel_rfl) rfl (fun W hW => rfl) (by assumption) ?_
    simp only [Act.put, List.setIfInBounds_toArray, List.set_cons_zero, List.set_cons_succ]
    refine take 12 16 (v := .bool true) rfl rfl (by kernel_rfl) (by kernel_rfl) (by kernel_rfl) rfl (fun W hW => exec_move rfl rfl) (by assumption) ?_
    simp only [Act.put, List.setIfInBounds_toArray, List.set_cons_zero, List.set_cons_succ]
    refine takeNot 13 17 rfl rfl (by kernel_rfl) (by kernel_rfl) (by kernel_rfl) rfl (by assumption) ?_
    simp only [Act.put, List.setIfInBounds_toArray, List.set_cons_zero, List.set_cons_succ]
    refine takeNot 14 18 rfl rfl (by kernel_rfl) (by kernel_rfl) (by kernel_rfl) rfl (by assumption) ?_
    simp only [Act.put, List.setIfInBounds_toArray, List.set_cons_zero, List.set_cons_succ]
    refine takeNot 15 19 rfl rfl (by kernel_rfl) (by kernel_rfl) (by kernel_rfl) rfl (by assumption) ?_
    simp only [Act.put, List.setIfInBounds_toArray, List.set_cons_zero, List.set_cons_succ]
    refine take 16 20 (v := .bool true) rfl rfl (by kernel_rfl) (by kernel_rfl) (by kernel_rfl) rfl (fun W hW => rfl) (by assumption) ?_
    simp only [Act.put, List.setIfInBounds_toArray, List.set_cons_zero, List.set_cons_succ]
    refine take 17 3 (v := .bool true) rfl rfl (by kernel_rfl) (by kernel_rfl) (by kernel_rfl) rfl (fun W hW => exec_assign rfl rfl) (by assumption) ?_
    simp only [Act.put, List.setIfInBounds_toArray, List.set_cons_zero, List.set_cons_succ]
    refine done (by kernel_rfl) ?_ _
    go_wp2
    go_ret
    exact ⟨ret_bool (by rw [HR.out]; simp [h1]), hU0.below⟩
set_option maxRecDepth 100000 in
set_option maxHeartbeats 2000000 in
theorem index_stor {w : World} {b : Nat} {p : Option Addr} {c : Nat} {l : List V} (hl : LRd w p c l) (hb : w.heap[b]? = some (.cells #[.slice p l.length c] 24 (0, 0))) :
    Calls Tryz.prog 116 #[.slice p l.length c, .func (.func 89) #[] #[.pointer (some ⟨b, 0, none⟩)]] w fun e w' => (∃ i : Int, e = .returned (.int .i64 i) ∧ decide (0 ≤ i) = !(storL l)) ∧ Below w.heap.size w w' := by
  have z1 : (l.length : Int) ≤ 140737488355328 := by have := hl.1.1; have := hl.1.2.1; omega
  have HL := Lib.hid (And.intro hl hb)
  clear hl hb
  go_enter Tryz.func116, Tryz.ntmps116
  go_wp2
  go_loopw [8] (fun i W => ∃ j : Nat, j ≤ l.length ∧ i = .int .i64 (j : Int) ∧ Hid (Below w.heap.size w W ∧ (l.take j).all (fun x => !(badB x.kind ((l.map V.kind).headD 0))) = true)) (fun i _ => l.length - (intOf i).toNat)
  case atStart => exact ⟨0, Nat.zero_le _, rfl, Lib.hid ⟨Below.refl _ _, rfl⟩⟩
  case round =>
    obtain ⟨j, hj, rfl, HJ⟩ := hrel
    by_cases hlt : j < l.length
    · have hlt1 : j + 1 ≤ l.length := hlt
      have hpos : 0 < l.length := by omega
      obtain ⟨hb, hf⟩ := HJ.out
      have htk : (l.take (j + 1)).all (fun x => !(badB x.kind ((l.map V.kind).headD 0))) = !(badB l[j].kind ((l.map V.kind).headD 0)) := by
        rw [List.take_succ_eq_append_getElem hlt, List.all_append, hf]; simp
      have hbad : badB l[j].kind ((l.map V.kind).headD 0) = true → storL l = false := fun h => by
        unfold storL; rw [List.all_eq_false]; exact ⟨l[j], List.getElem_mem hlt, by rw [h]; simp⟩
      have hL2 := HL.out.1.below hb
      obtain ⟨g0, o0, pk0, ck0, pl0, cl0, hp0, ⟨b0, _⟩, _⟩ := hL2.at hpos
      have hk0 : l[0].kind = (l.map V.kind).headD 0 := by cases l with
        | nil => simp at hpos
        | cons a r => rfl
      obtain ⟨g1, o1, pk1, ck1, pl1, cl1, rfl, ⟨a0, a1, a2, a3, a4, a5⟩, hv1⟩ := hL2.at hlt
      cases hp0
      rw [hk0, Nat.zero_mul, Nat.add_zero] at b0
      have hcall := bad_any hv1 (belowBlk hb (Array.getElem?_eq_some_iff.1 HL.out.2).1 HL.out.2) b0 hpos
      clear b0 hk0
      generalize (l.map V.kind).headD 0 = k0 at *
      generalize hon : badB l[j].kind k0 = on at *
      clear hon
      generalize l[j] = s1 at *
      have HD := Lib.hid (And.intro htk (And.intro hbad (And.intro hcall hb)))
      clear htk hbad hcall hb hf hv1 HJ hL2
      cases on with
      | true =>
        go_wp2_with (go_at_call 89
                     (
                       refine HD.out.2.2.1.mono ?_
                       rintro e w1 ⟨rfl, hb1⟩
                       have HB := Lib.hid hb1
                       clear hb1))
        go_ret
        refine ⟨⟨_, rfl, ?_⟩, below_trans HD.out.2.2.2 HB.out⟩
        rw [HD.out.2.1 (by simp)]; simp
      | false =>
        go_wp2_with (go_at_call 89
                     (
                       refine HD.out.2.2.1.mono ?_
                       rintro e w1 ⟨rfl, hb1⟩
                       have HB := Lib.hid hb1
                       clear hb1))
        go_roundw
        case rel => exact ⟨j + 1, hlt1, by go_num, Lib.hid ⟨below_trans HD.out.2.2.2 HB.out, HD.out.1⟩⟩
        case measure => simp [intOf]; omega
    · obtain rfl : j = l.length := by omega
      have hfin : storL l = true := by have h := HJ.out.2; rwa [List.take_length] at h
      have HF := Lib.hid (And.intro hfin HJ.out.1)
      clear hfin HJ
      go_wp2
      go_ret
      exact ⟨⟨_, rfl, by rw [HF.out.1]; simp⟩, HF.out.2⟩
theorem contains_stor {w : World} {b : Nat} {p : Option Addr} {c : Nat} {l : List V} (hl : LRd w p c l) (hb : w.heap[b]? = some (.cells #[.slice p l.length c] 24 (0, 0))) :
    Calls Tryz.prog 90 #[.slice p l.length c, .func (.func 89) #[] #[.pointer (some ⟨b, 0, none⟩)]] w fun e w' => e = .returned (.bool (!(storL l))) ∧ Below w.heap.size w w' := by
  have HC := Lib.hid (index_stor hl hb)
  clear hl hb
  go_enter Tryz.func90, Tryz.ntmps90
  go_wp2_with (go_at_call 116; refine HC.out.mono ?_; rintro e w1 ⟨⟨i, rfl, hi⟩, hb1⟩; have HB := Lib.hid (And.intro hi hb1); clear hi hb1)
  go_ret
  exact ⟨ret_bool HB.out.1, HB.out.2⟩
/-- What Storable finds in its boxes. -/
structure StorB (w : World) (x : Array Value) (p : Option Addr) (n c : Nat) (W : World) : Prop where
  one : W.heap[w.heap.size]? = some (.cells x 26 (0, 0))
  box : W.heap[w.heap.size + 2]? = some (.cells #[.slice p n c] 24 (0, 0))
  below : Below w.heap.size w W
theorem StorB.below' {w W W' : World} {x : Array Value} {p : Option Addr} {n c : Nat} (h : StorB w x p n c W) (g : Below W.heap.size W W') : StorB w x p n c W' :=
  ⟨belowBlk g (Array.getElem?_eq_some_iff.1 h.one).1 h.one, belowBlk g (Array.getElem?_eq_some_iff.1 h.box).1 h.box, below_trans h.below g⟩
theorem stor_fine {w : World} {v : V} {c0 c1 c2 c3 c4 c5 : Value} (hE : Env w) (hx : VRd w v #[c0, c1, c2, c3, c4, c5]) (ht : totV v ≤ 1099511627776) (p : Option Addr) (n c : Nat) :
    Calls Tryz.prog 62 #[.slice (some ⟨w.heap.size + 1 + 1 + 1, 0, none⟩) 1 1] ((((w.alloc (.cells #[c0, c1, c2, c3, c4, c5] 26)).alloc (.cells #[c0, c1, c2, c3, c4, c5] 26)).alloc (.cells #[.slice p n c] 24)).alloc (.cells #[c0, c1, c2, c3, c4, c5] 26))
      fun e w' => e = .returned (.bool (okV v)) ∧ StorB w #[c0, c1, c2, c3, c4, c5] p n c w' ∧ w'.heap[w.heap.size + 1]? = some (.cells #[c0, c1, c2, c3, c4, c5] 26 (0, 0)) := by
  have b1 : Below w.heap.size w (w.alloc (.cells #[c0, c1, c2, c3, c4, c5] 26)) := below_new _
  have h1 := heap_alloc_new w (.cells #[c0, c1, c2, c3, c4, c5] 26)
  have s1 : (w.alloc (.cells #[c0, c1, c2, c3, c4, c5] 26)).heap.size = w.heap.size + 1 := by simp
  generalize w.alloc (.cells #[c0, c1, c2, c3, c4, c5] 26) = w1 at *
  have b2 : Below w1.heap.size w1 (w1.alloc (.cells #[c0, c1, c2, c3, c4, c5] 26)) := below_new _
  have h2 := heap_alloc_new w1 (.cells #[c0, c1, c2, c3, c4, c5] 26)
  have s2 : (w1.alloc (.cells #[c0, c1, c2, c3, c4, c5] 26)).heap.size = w1.heap.size + 1 := by simp
  generalize w1.alloc (.cells #[c0, c1, c2, c3, c4, c5] 26) = w2 at *
  have b3 : Below w2.heap.size w2 (w2.alloc (.cells #[.slice p n c] 24)) := below_new _
  have h3 := heap_alloc_new w2 (.cells #[.slice p n c] 24)
  have s3 : (w2.alloc (.cells #[.slice p n c] 24)).heap.size = w2.heap.size + 1 := by simp
  generalize w2.alloc (.cells #[.slice p n c] 24) = w3 at *
  have b4 : Below w3.heap.size w3 (w3.alloc (.cells #[c0, c1, c2, c3, c4, c5] 26)) := below_new _
  have h4 := heap_alloc_new w3 (.cells #[c0, c1, c2, c3, c4, c5] 26)
  have e3 : w3.heap.size = w.heap.size + 1 + 1 + 1 := by omega
  rw [e3] at h4
  generalize w3.alloc (.cells #[c0, c1, c2, c3, c4, c5] 26) = w4 at *
  have g2 := below_trans b1 b2
  have g3 := below_trans g2 b3
  have g4 := below_trans g3 b4
  have hL := LRd.one h4 (hx.below g4)
  refine (fine_any (hE.b g4) hL (by simp only [totVs]; omega)).mono ?_
  rintro e w5 ⟨rfl, b5⟩
  have k1 := below_trans b2 (below_trans b3 (below_trans b4 b5))
  have k3 := below_trans b4 b5
  have e2 : w2.heap.size = w.heap.size + 2 := by omega
  have e1 : w1.heap.size = w.heap.size + 1 := by omega
  rw [e2] at h3
  rw [e1] at h2
  have k2 := below_trans b3 k3
  exact ⟨ret_bool (by simp [fineL]), ⟨belowBlk k1 (by omega) h1, belowBlk k3 (by omega) h3, below_trans g4 b5⟩, belowBlk k2 (by omega) h2⟩
set_option maxRecDepth 100000 in
set_option maxHeartbeats 4000000 in
theorem storable_any {v : V} {w : World} {x : Array Value} (hE : Env w) (hx : VRd w v x) (ht : totV v ≤ 1099511627776) :
    Calls Tryz.prog 53 #[.agg x] w fun e w' => e = .returned (.bool (okV v && storB v)) ∧ Below w.heap.size w w' := by
  obtain ⟨pk, ck, pl, cl, rfl, htx, hk1, hl1⟩ := hx.open
  have HR := Lib.hid (show storB v = storL (if v.kind = 4 then v.list else [v]) from rfl)
  generalize storB v = R at *
  have hF := fun p n c => stor_fine hE hx ht p n c
  generalize okV v = ok at *
  by_cases h4 : v.kind = 4
  · have HR2 := Lib.hid (show R = storL v.list by rw [HR.out, if_pos h4])
    have HF := Lib.hid (hF pl v.list.length cl)
    have HC := Lib.hid (fun (W : World) (hb : StorB w #[.int .i64 v.kind, .bool v.b, .int .i64 v.n, .string (strB v.text), .slice pk v.keys.length ck, .slice pl v.list.length cl] pl v.list.length cl W) => contains_stor (hl1.below hb.below) hb.box)
    clear HR hF
    rw [← HR2.out] at HC
    rw [h4] at HF HC
    rw [h4]
    clear hx hl1 hE ht htx hk1 h4 HR2
    cases ok with
    | false =>
      go_enter Tryz.func53, Tryz.ntmps53
      go_wp2_with (go_at_call 62; (refine HF.out.mono ?_; rintro e w1 ⟨rfl, hS, _⟩; have HS := Lib.hid hS; clear hS))
      go_ret
      exact ⟨rfl, HS.out.below⟩
    | true =>
      go_enter Tryz.func53, Tryz.ntmps53
      go_wp2_with (first
        | (go_at_call 62
           (
             refine HF.out.mono ?_
             rintro e w1 ⟨rfl, hS, _⟩
             have q0 := cellOf (o := 0) hS.box rfl
             have HS := Lib.hid hS
             clear hS))
        | (go_at_call 90
           (
             refine (HC.out _ HS.out).mono ?_
             rintro e w2 ⟨rfl, hb⟩
             have HB := Lib.hid (below_trans HS.out.below hb)
             clear hb)))
      go_ret
      exact ⟨ret_bool (by simp), HB.out⟩
  · have HR2 := Lib.hid (show R = storL [v] by rw [HR.out, if_neg h4])
    have h4f : (v.kind == 4) = false := by rw [beq_eq_false_iff_ne]; exact h4
    have HF := Lib.hid (hF (some ⟨w.heap.size + 1, 0, none⟩) 1 1)
    have HC := Lib.hid (fun (W : World) (hb : StorB w #[.int .i64 v.kind, .bool v.b, .int .i64 v.n, .string (strB v.text), .slice pk v.keys.length ck, .slice pl v.list.length cl] (some ⟨w.heap.size + 1, 0, none⟩) 1 1 W) (h : W.heap[w.heap.size + 1]? = some (.cells #[.int .i64 v.kind, .bool v.b, .int .i64 v.n, .string (strB v.text), .slice pk v.keys.length ck, .slice pl v.list.length cl] 26 (0, 0))) =>
      contains_stor (l := [v]) (LRd.one h (hx.below hb.below)) hb.box)
    clear HR hF
    rw [← HR2.out] at HC
    clear hx hl1 hE ht htx hk1 h4 HR2
    cases ok with
    | false =>
      go_enter Tryz.func53, Tryz.ntmps53
      go_wp2_with (go_at_call 62; (refine HF.out.mono ?_; rintro e w1 ⟨rfl, hS, _⟩; have HS := Lib.hid hS; clear hS))
      go_ret
      exact ⟨rfl, HS.out.below⟩
    | true =>
      go_enter Tryz.func53, Tryz.ntmps53
      go_wp2_with (first
        | (go_at_call 62
           (
             refine HF.out.mono ?_
             rintro e w1 ⟨rfl, hS, hS2⟩
             have q0 := cellOf (o := 0) hS.box rfl
             have HS := Lib.hid (And.intro hS hS2)
             clear hS hS2))
        | (go_at_call 90
           (
             refine (HC.out _ HS.out.1 HS.out.2).mono ?_
             rintro e w2 ⟨rfl, hb⟩
             have HB := Lib.hid (below_trans HS.out.1.below hb)
             clear hb)))
      go_ret
      exact ⟨ret_bool (by simp), HB.out⟩
end Go.Proofs.YtnkaegdnjfpliaaGreatDoor
