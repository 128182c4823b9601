/- Texts that the proofs of this layer share. -/
import Derived.Test.YtnkaegdnjfpliaaGreatDoorGC
import Derived.Test.YtnkaegdnjfpliaaGreatDoorGD
import Derived.Test.YtnkaegdnjfpliaaGreatDoorGB
import Derived.Test.YtnkaegdnjfpliaaGreatDoorGS
import Derived.Test.YtnkaegdnjfpliaaGreatDoorGA
/-! value.CompareRows, value.Storable. Printed by gen_stor.py. -/
namespace Go.Proofs.YtnkaegdnjfpliaaGreatDoor
set_option linter.unusedSimpArgs false
set_option linter.unusedVariables false
open Go.RowKit

/-- What CompareRows tells. -/
def rowsF (l m : List V) : Int := if fineL l && fineL m then cmpL cmpV l m else 0
theorem fineL_may {l : List V} (h : fineL l = true) : ∀ v ∈ l, mayV Lib.validD v = true := by
  intro v hv
  unfold fineL at h
  rw [List.all_eq_true] at h
  exact okV_may (h v hv)
set_option maxRecDepth 100000 in
set_option maxHeartbeats 2000000 in
theorem rows_any {w : World} {p1 p2 : Option Addr} {c1 c2 : Nat} {l m : List V} (hE : Env w) (h1 : LRd w p1 c1 l) (h2 : LRd w p2 c2 m) (t1 : totVs l ≤ 1099511627776) (t2 : totVs m ≤ 1099511627776) :
    Calls Tryz.prog 48 #[.slice p1 l.length c1, .slice p2 m.length c2] w fun e w' => e = .returned (.int .i64 (rowsF l m)) ∧ Below w.heap.size w w' := by
  have HF1 := Lib.hid (fine_any hE h1 t1)
  have HF2 := Lib.hid (fun (W : World) (hb : Below w.heap.size w W) => fine_any (hE.b hb) (h2.below hb) t2)
  have HC := Lib.hid (fun (W : World) (hb : Below w.heap.size w W) (f1 : fineL l = true) (f2 : fineL m = true) => listsV_any (h1.below hb) (h2.below hb) cmpV (fun a ha b hb x y W' hx hy => compare_any a (fineL_may f1 a ha) b (fineL_may f2 b hb) hx hy))
  have HR := Lib.hid (show rowsF l m = if fineL l && fineL m then cmpL cmpV l m else 0 from rfl)
  generalize rowsF l m = R at *
  generalize cmpL cmpV l m = C at *
  clear hE h1 h2 t1 t2
  generalize fineL l = f1 at *
  generalize fineL m = f2 at *
  cases f1 with
  | false =>
    go_enter Tryz.func48, Tryz.ntmps48
    have hR : R = 0 := by rw [HR.out]; rfl
    clear HR HC
    go_wp2_with (first
      | (go_at_call 62; refine HF1.out.mono ?_; rintro e w1 ⟨rfl, hb⟩; have HB := Lib.hid hb; clear hb HF1)
      | (go_at_call 62; refine (HF2.out _ HB.out).mono ?_; rintro e w2 ⟨rfl, hb⟩; have HB2 := Lib.hid (below_trans HB.out hb); clear hb HF2))
    go_ret
    exact ⟨ret_int hR.symm, HB.out⟩
  | true =>
    cases f2 with
    | false =>
      go_enter Tryz.func48, Tryz.ntmps48
      go_wp2_with (first
        | (go_at_call 62; refine HF1.out.mono ?_; rintro e w1 ⟨rfl, hb⟩; have HB := Lib.hid hb; clear hb HF1)
        | (go_at_call 62; refine (HF2.out _ HB.out).mono ?_; rintro e w2 ⟨rfl, hb⟩; have HB2 := Lib.hid (below_trans HB.out hb); clear hb HF2))
      go_ret
      exact ⟨ret_int (by rw [HR.out]; rfl), HB2.out⟩
    | true =>
      go_enter Tryz.func48, Tryz.ntmps48
      go_wp2_with (first
        | (go_at_call 62; refine HF1.out.mono ?_; rintro e w1 ⟨rfl, hb⟩; have HB := Lib.hid hb; clear hb HF1)
        | (go_at_call 62; refine (HF2.out _ HB.out).mono ?_; rintro e w2 ⟨rfl, hb⟩; have HB2 := Lib.hid (below_trans HB.out hb); clear hb HF2)
        | (go_at_call 87; refine (HC.out _ HB2.out (by simp) (by simp)).mono ?_; rintro e w3 ⟨rfl, hb⟩; have HB3 := Lib.hid (below_trans HB2.out hb); clear hb))
      go_ret
      exact ⟨ret_int (by rw [HR.out]; rfl), HB3.out⟩

/-- May a value of a kind be stored beside one of a kind? -/
def badB (k k0 : Int) : Bool := decide (k ≠ k0) || decide (k < 1) || decide (3 < k)
/-- May a value be stored, where it may be? -/
def storL (l : List V) : Bool := l.all fun x => !(badB x.kind ((l.map V.kind).headD 0))
def storB (v : V) : Bool := storL (if v.kind = 4 then v.list else [v])
theorem fa_first (y o : Nat) (W : World) : (Instr.fieldAt 26 (.pointer (some ⟨y, o, none⟩)) 0).run Tryz.prog W = .ok (.pointer (some ⟨y, o, none⟩)) W := by
  simp [go_sem]
theorem ia_first (g o n c : Nat) (h : 0 < n) (W : World) : (Instr.indexAt 24 (.slice (some ⟨g, o, none⟩) n c) (.int .i64 0)).run Tryz.prog W = .ok (.pointer (some ⟨g, o, none⟩)) W := by
  simp [go_sem, h, addr_add]
/-- What lies in a box of a slice. -/
structure BoxL (w : World) (b g o n c : Nat) (k0 : Int) (x : Array Value) (W : World) : Prop where
  box : W.heap[b]? = some (.cells #[.slice (some ⟨g, o, none⟩) n c] 24 (0, 0))
  first : W.cell? ⟨g, o, none⟩ = some (.int .i64 k0)
  one : W.heap[w.heap.size]? = some (.cells x 26 (0, 0))
  below : Below w.heap.size w W
set_option maxRecDepth 100000 in
set_option maxHeartbeats 2000000 in
theorem bad_any {w : World} {v : V} {x : Array Value} {b g o n c : Nat} {k0 : Int} (hx : VRd w v x) (hb : w.heap[b]? = some (.cells #[.slice (some ⟨g, o, none⟩) n c] 24 (0, 0))) (hk : w.cell? ⟨g, o, none⟩ = some (.int .i64 k0)) (hn : 0 < n) :
    Calls Tryz.prog 89 #[.agg x, .pointer (some ⟨b, 0, none⟩)] w fun e w' => e = .returned (.bool (badB v.kind k0)) ∧ Below w.heap.size w w' := by
  obtain ⟨pk, ck, pl, cl, rfl, _⟩ := hx.open
  have hT : BoxL w b g o n c k0 #[.int .i64 v.kind, .bool v.b, .int .i64 v.n, .string (strB v.text), .slice pk v.keys.length ck, .slice pl v.list.length cl] (w.alloc (.cells #[.int .i64 v.kind, .bool v.b, .int .i64 v.n, .string (strB v.text), .slice pk v.keys.length ck, .slice pl v.list.length cl] 26)) :=
    ⟨belowBlk (below_new _) (Array.getElem?_eq_some_iff.1 hb).1 hb, belowCell (below_new _) (ltOf hk) hk, heap_alloc_new w _, below_new _⟩
  have HR := Lib.hid (show badB v.kind k0 = (decide (v.kind ≠ k0) || decide (v.kind < 1) || decide (3 < v.kind)) from rfl)
  generalize badB v.kind k0 = R at *
  generalize v.kind = k at *
  have HT := Lib.hid hT
  clear hx hb hk hT
  go_enter Tryz.func89, Tryz.ntmps89
  go_wp2
  have hT := HT.out
  generalize w.alloc _ = W0 at *
  have hT0 : BoxL w b g o n c k0 #[.int .i64 k, .bool v.b, .int .i64 v.n, .string (strB v.text), .slice pk v.keys.length ck, .slice pl v.list.length cl] W0.drew := ⟨hT.box, hT.first, hT.one, hT.below.drew⟩
  by_cases h1 : k = k0
  · have hne : ∀ W : World, (binOp .neq 22 (.int .i64 k) (.int .i64 k0)).run Tryz.prog W = .ok (.bool false) W := by
      intro W; simp [go_sem, h1]
    by_cases h2 : k < 1
    · have hlt : ∀ W : World, (binOp .lss 22 (.int .i64 k) (.int .i64 1)).run Tryz.prog W = .ok (.bool true) W := by
        intro W; simp [go_sem, h2]
      refine plain_region_draws (fun W => BoxL w b g o n c k0 #[.int .i64 k, .bool v.b, .int .i64 v.n, .string (strB v.text), .slice pk v.keys.length ck, .slice pl v.list.length cl] W) (by kernel_rfl) hT0 (fun hU0 => ?_)
      refine take 0 4 (v := .pointer (some ⟨w.heap.size, 0, none⟩)) rfl rfl (by kernel_rfl) (by kernel_rfl) (by kernel_rfl) rfl (fun W hW => exec_fieldAddr rfl rfl (fa_value _ _ (by decide) W)) (by assumption) ?_
      simp only [Act.put, List.setIfInBounds_toArray, List.set_cons_zero, List.set_cons_succ]
      refine take 1 5 (v := .int .i64 k) rfl rfl (by kernel_rfl) (by kernel_rfl) (by kernel_rfl) rfl (fun W hW => exec_load rfl rfl (run_load1 (w := W) Tryz.underlying22 rfl (cellOf hW.one rfl))) (by assumption) ?_
      simp only [Act.put, List.setIfInBounds_toArray, List.set_cons_zero, List.set_cons_succ]
      refine take 2 6 (v := .slice (some ⟨g, o, none⟩) n c) rfl rfl (by kernel_rfl) (by kernel_rfl) (by kernel_rfl) rfl (fun W hW => exec_load rfl rfl (run_load1 (w := W) Tryz.underlying24 rfl (cellOf hW.box rfl))) (by assumption) ?_
      simp only [Act.put, List.setIfInBounds_toArray, List.set_cons_zero, List.set_cons_succ]
      refine take 3 7 (v := .pointer (some ⟨g, o, none⟩)) rfl rfl (by kernel_rfl) (by kernel_rfl) (by kernel_rfl) rfl (fun W hW => exec_indexAddr rfl rfl rfl (ia_first _ _ _ _ hn W)) (by assumption) ?_
      simp only [Act.put, List.setIfInBounds_toArray, List.set_cons_zero, List.set_cons_succ]
      refine take 4 8 (v := .pointer (some ⟨g, o, none⟩)) rfl rfl (by kernel_rfl) (by kernel_rfl) (by kernel_rfl) rfl (fun W hW => exec_fieldAddr rfl rfl (fa_first _ _ W)) (by assumption) ?_
      simp only [Act.put, List.setIfInBounds_toArray, List.set_cons_zero, List.set_cons_succ]
      refine take 5 9 (v := .int .i64 k0) rfl rfl (by kernel_rfl) (by kernel_rfl) (by kernel_rfl) rfl (fun W hW => exec_load rfl rfl (run_load1 (w := W) Tryz.underlying22 rfl hW.first)) (by assumption) ?_
      simp only [Act.put, List.setIfInBounds_toArray, List.set_cons_zero, List.set_cons_succ]
      refine take 6 10 (v := .bool false) rfl rfl (by kernel_rfl) (by kernel_rfl) (by kernel_rfl) rfl (fun W hW => exec_bini rfl rfl rfl (hne W)) (by assumption) ?_
      simp only [Act.put, List.setIfInBounds_toArray, List.set_cons_zero, List.set_cons_succ]
      refine take 7 11 (v := .bool false) rfl rfl (by kernel_rfl) (by kernel_rfl) (by kernel_rfl) rfl (fun W hW => exec_move rfl rfl) (by assumption) ?_
      simp only [Act.put, List.setIfInBounds_toArray, List.set_cons_zero, List.set_cons_succ]
      refine take 8 12 (v := .pointer (some ⟨w.heap.size, 0, none⟩)) rfl rfl (by kernel_rfl) (by kernel_rfl) (by kernel_rfl) rfl (fun W hW => exec_fieldAddr rfl rfl (fa_value _ _ (by decide) W)) (by assumption) ?_
      simp only [Act.put, List.setIfInBounds_toArray, List.set_cons_zero, List.set_cons_succ]
      refine take 9 13 (v := .int .i64 k) rfl rfl (by kernel_rfl) (by kernel_rfl) (by kernel_rfl) rfl (fun W hW => exec_load rfl rfl (run_load1 (w := W) Tryz.underlying22 rfl (cellOf hW.one rfl))) (by assumption) ?_
      simp only [Act.put, List.setIfInBounds_toArray, List.set_cons_zero, List.set_cons_succ]
      refine take 10 14 (v := .bool true) rfl rfl (by kernel_rfl) (by kernel_rfl) (by kernel_rfl) rfl (fun W hW => exec_bini rfl rfl rfl (hlt W)) (by assumption) ?_
      simp only [Act.put, List.setIfInBounds_toArray, List.set_cons_zero, List.set_cons_succ]
      refine take 11 15 (v := .bool true) rfl rfl (by kernel_rfl) (by kernel_rfl) (by kernel_rfl) rfl (fun W hW => rfl) (by assumption) ?_
      simp only [Act.put, List.setIfInBounds_toArray, List.set_cons_zero, List.set_cons_succ]
      refine take 12 16 (v := .bool true) rfl rfl (by kernel_rfl) (by kernel_rfl) (by kernel_rfl) rfl (fun W hW => exec_move rfl rfl) (by assumption) ?_
      simp only [Act.put, List.setIfInBounds_toArray, List.set_cons_zero, List.set_cons_succ]
      refine takeNot 13 17 rfl rfl (by kernel_rfl) (by kernel_rfl) (by kernel_rfl) rfl (by assumption) ?_
      simp only [Act.put, List.setIfInBounds_toArray, List.set_cons_zero, List.set_cons_succ]
      refine takeNot 14 18 rfl rfl (by kernel_rfl) (by kernel_rfl) (by kernel_rfl) rfl (by assumption) ?_
      simp only [Act.put, List.setIfInBounds_toArray, List.set_cons_zero, List.set_cons_succ]
      refine takeNot 15 19 rfl rfl (by kernel_rfl) (by kernel_rfl) (by kernel_rfl) rfl (by assumption) ?_
      simp only [Act.put, List.setIfInBounds_toArray, List.set_cons_zero, List.set_cons_succ]
      refine take 16 20 (v := .bool true) rfl rfl (by kernel_rfl) (by kernel_rfl) (by kernel_rfl) rfl (fun W hW => rfl) (by assumption) ?_
      simp only [Act.put, List.setIfInBounds_toArray, List.set_cons_zero, List.set_cons_succ]
      refine take 17 3 (v := .bool true) rfl rfl (by kernel_rfl) (by kernel_rfl) (by kernel_rfl) rfl (fun W hW => exec_assign rfl rfl) (by assumption) ?_
      simp only [Act.put, List.setIfInBounds_toArray, List.set_cons_zero, List.set_cons_succ]
      refine done (by kernel_rfl) ?_ _
      go_wp2
      go_ret
      exact ⟨ret_bool (by rw [HR.out]; simp [h2]), hU0.below⟩
    · have hlt : ∀ W : World, (binOp .lss 22 (.int .i64 k) (.int .i64 1)).run Tryz.prog W = .ok (.bool false) W := by
        intro W; simp [go_sem]; omega
      have hgt : ∀ W : World, (binOp .gtr 22 (.int .i64 k) (.int .i64 3)).run Tryz.prog W = .ok (.bool (decide (3 < k))) W := by
        intro W; simp [go_sem]
      refine plain_region_draws (fun W => BoxL w b g o n c k0 #[.int .i64 k, .bool v.b, .int .i64 v.n, .string (strB v.text), .slice pk v.keys.length ck, .slice pl v.list.length cl] W) (by kernel_rfl) hT0 (fun hU0 => ?_)
      refine take 0 4 (v := .pointer (some ⟨w.heap.size, 0, none⟩)) rfl rfl (by kernel_rfl) (by kernel_rfl) (by kernel_rfl) rfl (fun W hW => exec_fieldAddr rfl rfl (fa_value _ _ (by decide) W)) (by assumption) ?_
      simp only [Act.put, List.setIfInBounds_toArray, List.set_cons_zero, List.set_cons_succ]
      refine take 1 5 (v := .int .i64 k) rfl rfl (by kernel_rfl) (by kernel_rfl) (by kernel_rfl) rfl (fun W hW => exec_load rfl rfl (run_load1 (w := W) Tryz.underlying22 rfl (cellOf hW.one rfl))) (by assumption) ?_
      simp only [Act.put, List.setIfInBounds_toArray, List.set_cons_zero, List.set_cons_succ]
      refine take 2 6 (v := .slice (some ⟨g, o, none⟩) n c) rfl rfl (by kernel_rfl) (by kernel_rfl) (by kernel_rfl) rfl (fun W hW => exec_load rfl rfl (run_load1 (w := W) Tryz.underlying24 rfl (cellOf hW.box rfl))) (by assumption) ?_
      simp only [Act.put, List.setIfInBounds_toArray, List.set_cons_zero, List.set_cons_succ]
      refine take 3 7 (v := .pointer (some ⟨g, o, none⟩)) rfl rfl (by kernel_rfl) (by kernel_rfl) (by kernel_rfl) rfl (fun W hW => exec_indexAddr rfl rfl rfl (ia_first _ _ _ _ hn W)) (by assumption) ?_
      simp only [Act.put, List.setIfInBounds_toArray, List.set_cons_zero, List.set_cons_succ]
      refine take 4 8 (v := .pointer (some ⟨g, o, none⟩)) rfl rfl (by kernel_rfl) (by kernel_rfl) (by kernel_rfl) rfl (fun W hW => exec_fieldAddr rfl rfl (fa_first _ _ W)) (by assumption) ?_
      simp only [Act.put, List.setIfInBounds_toArray, List.set_cons_zero, List.set_cons_succ]
      refine take 5 9 (v := .int .i64 k0) rfl rfl (by kernel_rfl) (by kernel_rfl) (by kernel_rfl) rfl (fun W hW => exec_load rfl rfl (run_load1 (w := W) Tryz.underlying22 rfl hW.first)) (by assumption) ?_
      simp only [Act.put, List.setIfInBounds_toArray, List.set_cons_zero, List.set_cons_succ]
      refine take 6 10 (v := .bool false) rfl rfl (by kernel_rfl) (by kernel_rfl) (by kernel_rfl) rfl (fun W hW => exec_bini rfl rfl rfl (hne W)) (by assumption) ?_
      simp only [Act.put, List.setIfInBounds_toArray, List.set_cons_zero, List.set_cons_succ]
      refine take 7 11 (v := .bool false) rfl rfl (by kernel_rfl) (by kernel_rfl) (by kernel_rfl) rfl (fun W hW => exec_move rfl rfl) (by assumption) ?_
      simp only [Act.put, List.setIfInBounds_toArray, List.set_cons_zero, List.set_cons_succ]
      refine take 8 12 (v := .pointer (some ⟨w.heap.size, 0, none⟩)) rfl rfl (by kernel_rfl) (by kernel_rfl) (by kernel_rfl) rfl (fun W hW => exec_fieldAddr rfl rfl (fa_value _ _ (by decide) W)) (by assumption) ?_
      simp only [Act.put, List.setIfInBounds_toArray, List.set_cons_zero, List.set_cons_succ]
      refine take 9 13 (v := .int .i64 k) rfl rfl (by kernel_rfl) (by kernel_rfl) (by kernel_rfl) rfl (fun W hW => exec_load rfl rfl (run_load1 (w := W) Tryz.underlying22 rfl (cellOf hW.one rfl))) (by assumption) ?_
      simp only [Act.put, List.setIfInBounds_toArray, List.set_cons_zero, List.set_cons_succ]
      refine take 10 14 (v := .bool false) rfl rfl (by kernel_rfl) (by kernel_rfl) (by kernel_rfl) rfl (fun W hW => exec_bini rfl rfl rfl (hlt W)) (by assumption) ?_
      simp only [Act.put, List.setIfInBounds_toArray, List.set_cons_zero, List.set_cons_succ]
      refine take 11 15 (v := .bool false) rfl rfl (by kernel_rfl) (by kernel_rfl) (by kernel_rfl) rfl (fun W hW => rfl) (by assumption) ?_
      simp only [Act.put, List.setIfInBounds_toArray, List.set_cons_zero, List.set_cons_succ]
      refine take 12 16 (v := .bool false) rfl rfl (by kernel_rfl) (by kernel_rfl) (by kernel_rfl) rfl (fun W hW => exec_move rfl rfl) (by assumption) ?_
      simp only [Act.put, List.setIfInBounds_toArray, List.set_cons_zero, List.set_cons_succ]
      refine take 13 17 (v := .pointer (some ⟨w.heap.size, 0, none⟩)) rfl rfl (by kernel_rfl) (by kernel_rfl) (by kernel_rfl) rfl (fun W hW => exec_fieldAddr rfl rfl (fa_value _ _ (by decide) W)) (by assumption) ?_
      simp only [Act.put, List.setIfInBounds_toArray, List.set_cons_zero, List.set_cons_succ]
      refine take 14 18 (v := .int .i64 k) rfl rfl (by kernel_rfl) (by kernel_rfl) (by kernel_rfl) rfl (fun W hW => exec_load rfl rfl (run_load1 (w := W) Tryz.underlying22 rfl (cellOf hW.one rfl))) (by assumption) ?_
      simp only [Act.put, List.setIfInBounds_toArray, List.set_cons_zero, List.set_cons_succ]
      refine take 15 19 (v := .bool (decide (3 < k))) rfl rfl (by kernel_rfl) (by kernel_rfl) (by kernel_rfl) rfl (fun W hW => exec_bini rfl rfl rfl (hgt W)) (by assumption) ?_
      simp only [Act.put, List.setIfInBounds_toArray, List.set_cons_zero, List.set_cons_succ]
      refine take 16 20 (v := .bool (decide (3 < k))) rfl rfl (by kernel_rfl) (by kernel_rfl) (by kernel_rfl) rfl (fun W hW => rfl) (by assumption) ?_
      simp only [Act.put, List.setIfInBounds_toArray, List.set_cons_zero, List.set_cons_succ]
      refine take 17 3 (v := .bool (decide (3 < k))) rfl rfl (by kernel_rfl) (by kernel_rfl) (by kernel_rfl) rfl (fun W hW => exec_assign rfl rfl) (by assumption) ?_
      simp only [Act.put, List.setIfInBounds_toArray, List.set_cons_zero, List.set_cons_succ]
      refine done (by kernel_rfl) ?_ _
      go_wp2
      go_ret
      exact ⟨ret_bool (by rw [HR.out, show decide (k ≠ k0) = false by simp [h1], show decide (k < 1) = false by simp; omega]; simp; omega), hU0.below⟩
  · have hne : ∀ W : World, (binOp .neq 22 (.int .i64 k) (.int .i64 k0)).run Tryz.prog W = .ok (.bool true) W := by
      intro W; simp [go_sem, h1]
    refine plain_region_draws (fun W => BoxL w b g o n c k0 #[.int .i64 k, .bool v.b, .int .i64 v.n, .string (strB v.text), .slice pk v.keys.length ck, .slice pl v.list.length cl] W) (by kernel_rfl) hT0 (fun hU0 => ?_)
    refine take 0 4 (v := .pointer (some ⟨w.heap.size, 0, none⟩)) rfl rfl (by kernel_rfl) (by kernel_rfl) (by kernel_rfl) rfl (fun W hW => exec_fieldAddr rfl rfl (fa_value _ _ (by decide) W)) (by assumption) ?_
    simp only [Act.put, List.setIfInBounds_toArray, List.set_cons_zero, List.set_cons_succ]
    refine take 1 5 (v := .int .i64 k) rfl rfl (by kernel_rfl) (by kernel_rfl) (by kernel_rfl) rfl (fun W hW => exec_load rfl rfl (run_load1 (w := W) Tryz.underlying22 rfl (cellOf hW.one rfl))) (by assumption) ?_
    simp only [Act.put, List.setIfInBounds_toArray, List.set_cons_zero, List.set_cons_succ]
    refine take 2 6 (v := .slice (some ⟨g, o, none⟩) n c) rfl rfl (by kernel_rfl) (by kernel_rfl) (by kernel_rfl) rfl (fun W hW => exec_load rfl rfl (run_load1 (w := W) Tryz.underlying24 rfl (cellOf hW.box rfl))) (by assumption) ?_
    simp only [Act.put, List.setIfInBounds_toArray, List.set_cons_zero, List.set_cons_succ]
    refine take 3 7 (v := .pointer (some ⟨g, o, none⟩)) rfl rfl (by kernel_rfl) (by kernel_rfl) (by kernel_rfl) rfl (fun W hW => exec_indexAddr rfl rfl rfl (ia_first _ _ _ _ hn W)) (by assumption) ?_
    simp only [Act.put, List.setIfInBounds_toArray, List.set_cons_zero, List.set_cons_succ]
    refine take 4 8 (v := .pointer (some ⟨g, o, none⟩)) rfl rfl (by kernel_rfl) (by kernel_rfl) (by kernel_rfl) rfl (fun W hW => exec_fieldAddr rfl rfl (fa_first _ _ W)) (by assumption) ?_
    simp only [Act.put, List.setIfInBounds_toArray, List.set_cons_zero, List.set_cons_succ]
    refine take 5 9 (v := .int .i64 k0) rfl rfl (by kernel_rfl) (by kernel_rfl) (by kernel_rfl) rfl (fun W hW => exec_load rfl rfl (run_load1 (w := W) Tryz.underlying22 rfl hW.first)) (by assumption) ?_
    simp only [Act.put, List.setIfInBounds_toArray, List.set_cons_zero, List.set_cons_succ]
    refine take 6 10 (v := .bool true) rfl rfl (by kernel_rfl) (by kernel_rfl) (by kernel_rfl) rfl (fun W hW => exec_bini rfl rfl rfl (hne W)) (by assumption) ?_
    simp only [Act.put, List.setIfInBounds_toArray, List.set_cons_zero, List.set_cons_succ]
    refine take 7 11 (v := .bool true) rfl rfl (by kernel_rfl) (by kernel_rfl) (by kernel_rfl) rfl (fun W hW => exec_move rfl rfl) (by assumption) ?_
    simp only [Act.put, List.setIfInBounds_toArray, List.set_cons_zero, List.set_cons_succ]
    refine takeNot 8 12 rfl rfl (by kernel_rfl) (by kernel_rfl) (by kernel_rfl) rfl (by assumption) ?_
    simp only [Act.put, List.setIfInBounds_toArray, List.set_cons_zero, List.set_cons_succ]
    refine takeNot 9 13 rfl rfl (by kernel_rfl) (by kernel_rfl) (by kernel_rfl) rfl (by assumption) ?_
    simp only [Act.put, List.setIfInBounds_toArray, List.set_cons_zero, List.set_cons_succ]
    refine takeNot 10 14 rfl rfl (by kernel_rfl) (by kernel_rfl) (by kernel_rfl) rfl (by assumption) ?_
    simp only [Act.put, List.setIfInBounds_toArray, List.set_cons_zero, List.set_cons_succ]
    refine take 11 15 (v := .bool true) rfl rfl (by kernel_rfl) (by kernel_rfl) (by kernel_rfl) rfl (fun W hW => rfl) (by assumption) ?_
    simp only [Act.put, List.setIfInBounds_toArray, List.set_cons_zero, List.set_cons_succ]
    refine take 12 16 (v := .bool true) rfl rfl (by kernel_rfl) (by kernel_rfl) (by kernel_rfl) rfl (fun W hW => exec_move rfl rfl) (by assumption) ?_
    simp only [Act.put, List.setIfInBounds_toArray, List.set_cons_zero, List.set_cons_succ]
    refine takeNot 13 17 rfl rfl (by kernel_rfl) (by kernel_rfl) (by kernel_rfl) rfl (by assumption) ?_
    simp only [Act.put, List.setIfInBounds_toArray, List.set_cons_zero, List.set_cons_succ]
    refine takeNot 14 18 rfl rfl (by kernel_rfl) (by kernel_rfl) (by kernel_rfl) rfl (by assumption) ?_
    simp only [Act.put, List.setIfInBounds_toArray, List.set_cons_zero, List.set_cons_succ]
    refine takeNot 15 19 rfl rfl (by kernel_rfl) (by kernel_rfl) (by kernel_rfl) rfl (by assumption) ?_
    simp only [Act.put, List.setIfInBounds_toArray, List.set_cons_zero, List.set_cons_succ]
    refine take 16 20 (v := .bool true) rfl rfl (by kernel_rfl) (by kernel_rfl) (by kernel_rfl) rfl (fun W hW => rfl) (by assumption) ?_
    simp only [Act.put, List.setIfInBounds_toArray, List.set_cons_zero, List.set_cons_succ]
    refine take 17 3 (v := .bool true) rfl rfl (by kernel_rfl) (by kernel_rfl) (by kernel_rfl) rfl (fun W hW => exec_assign rfl rfl) (by assumption) ?_
    simp only [Act.put, List.setIfInBounds_toArray, List.set_cons_zero, List.set_cons_succ]
    refine done (by kernel_rfl) ?_ _
    go_wp2
    go_ret
    exact ⟨ret_bool (by rw [HR.out]; simp [h1]), hU0.below⟩
set_option maxRecDepth 100000 in
set_option maxHeartbeats 2000000 in
theorem index_stor {w : World} {b : Nat} {p : Option Addr} {c : Nat} {l : List V} (hl : LRd w p c l) (hb : w.heap[b]? = some (.cells #[.slice p l.length c] 24 (0, 0))) :
    Calls Tryz.prog 116 #[.slice p l.length c, .func (.func 89) #[] #[.pointer (some ⟨b, 0, none⟩)]] w fun e w' => (∃ i : Int, e = .returned (.int .i64 i) ∧ decide (0 ≤ i) = !(storL l)) ∧ Below w.heap.size w w' := by
  have z1 : (l.length : Int) ≤ 140737488355328 := by have := hl.1.1; have := hl.1.2.1; omega
  have HL := Lib.hid (And.intro hl hb)
  clear hl hb
  go_enter Tryz.func116, Tryz.ntmps116
  go_wp2
  go_loopw [8] (fun i W => ∃ j : Nat, j ≤ l.length ∧ i = .int .i64 (j : Int) ∧ Hid (Below w.heap.size w W ∧ (l.take j).all (fun x => !(badB x.kind ((l.map V.kind).headD 0))) = true)) (fun i _ => l.length - (intOf i).toNat)
  case atStart => exact ⟨0, Nat.zero_le _, rfl, Lib.hid ⟨Below.refl _ _, rfl⟩⟩
  case round =>
    obtain ⟨j, hj, rfl, HJ⟩ := hrel
    by_cases hlt : j < l.length
    · have hlt1 : j + 1 ≤ l.length := hlt
      have hpos : 0 < l.length := by omega
      obtain ⟨hb, hf⟩ := HJ.out
      have htk : (l.take (j + 1)).all (fun x => !(badB x.kind ((l.map V.kind).headD 0))) = !(badB l[j].kind ((l.map V.kind).headD 0)) := by
        rw [List.take_succ_eq_append_getElem hlt, List.all_append, hf]; simp
      have hbad : badB l[j].kind ((l.map V.kind).headD 0) = true → storL l = false := fun h => by
        unfold storL; rw [List.all_eq_false]; exact ⟨l[j], List.getElem_mem hlt, by rw [h]; simp⟩
      have hL2 := HL.out.1.below hb
      obtain ⟨g0, o0, pk0, ck0, pl0, cl0, hp0, ⟨b0, _⟩, _⟩ := hL2.at hpos
      have hk0 : l[0].kind = (l.map V.kind).headD 0 := by cases l with
        | nil => simp at hpos
        | cons a r => rfl
      obtain ⟨g1, o1, pk1, ck1, pl1, cl1, rfl, ⟨a0, a1, a2, a3, a4, a5⟩, hv1⟩ := hL2.at hlt
      cases hp0
      rw [hk0, Nat.zero_mul, Nat.add_zero] at b0
      have hcall := bad_any hv1 (belowBlk hb (Array.getElem?_eq_some_iff.1 HL.out.2).1 HL.out.2) b0 hpos
      clear b0 hk0
      generalize (l.map V.kind).headD 0 = k0 at *
      generalize hon : badB l[j].kind k0 = on at *
      clear hon
      generalize l[j] = s1 at *
      have HD := Lib.hid (And.intro htk (And.intro hbad (And.intro hcall hb)))
      clear htk hbad hcall hb hf hv1 HJ hL2
      cases on with
      | true =>
        go_wp2_with (go_at_call 89
                     (
                       refine HD.out.2.2.1.mono ?_
                       rintro e w1 ⟨rfl, hb1⟩
                       have HB := Lib.hid hb1
                       clear hb1))
        go_ret
        refine ⟨⟨_, rfl, ?_⟩, below_trans HD.out.2.2.2 HB.out⟩
        rw [HD.out.2.1 (by simp)]; simp
      | false =>
        go_wp2_with (go_at_call 89
                     (
                       refine HD.out.2.2.1.mono ?_
                       rintro e w1 ⟨rfl, hb1⟩
                       have HB := Lib.hid hb1
                       clear hb1))
        go_roundw
        case rel => exact ⟨j + 1, hlt1, by go_num, Lib.hid ⟨below_trans HD.out.2.2.2 HB.out, HD.out.1⟩⟩
        case measure => simp [intOf]; omega
    · obtain rfl : j = l.length := by omega
      have hfin : storL l = true := by have h := HJ.out.2; rwa [List.take_length] at h
      have HF := Lib.hid (And.intro hfin HJ.out.1)
      clear hfin HJ
      go_wp2
      go_ret
      exact ⟨⟨_, rfl, by rw [HF.out.1]; simp⟩, HF.out.2⟩
theorem contains_stor {w : World} {b : Nat} {p : Option Addr} {c : Nat} {l : List V} (hl : LRd w p c l) (hb : w.heap[b]? = some (.cells #[.slice p l.length c] 24 (0, 0))) :
    Calls Tryz.prog 90 #[.slice p l.length c, .func (.func 89) #[] #[.pointer (some ⟨b, 0, none⟩)]] w fun e w' => e = .returned (.bool (!(storL l))) ∧ Below w.heap.size w w' := by
  have HC := Lib.hid (index_stor hl hb)
  clear hl hb
  go_enter Tryz.func90, Tryz.ntmps90
  go_wp2_with (go_at_call 116; refine HC.out.mono ?_; rintro e w1 ⟨⟨i, rfl, hi⟩, hb1⟩; have HB := Lib.hid (And.intro hi hb1); clear hi hb1)
  go_ret
  exact ⟨ret_bool HB.out.1, HB.out.2⟩
/-- What Storable finds in its boxes. -/
structure StorB (w : World) (x : Array Value) (p : Option Addr) (n c : Nat) (W : World) : Prop where
  one : W.heap[w.heap.size]? = some (.cells x 26 (0, 0))
  box : W.heap[w.heap.size + 2]? = some (.cells #[.slice p n c] 24 (0, 0))
  below : Below w.heap.size w W
theorem StorB.below' {w W W' : World} {x : Array Value} {p : Option Addr} {n c : Nat} (h : StorB w x p n c W) (g : Below W.heap.size W W') : StorB w x p n c W' :=
  ⟨belowBlk g (Array.getElem?_eq_some_iff.1 h.one).1 h.one, belowBlk g (Array.getElem?_eq_some_iff.1 h.box).1 h.box, below_trans h.below g⟩
theorem stor_fine {w : World} {v : V} {c0 c1 c2 c3 c4 c5 : Value} (hE : Env w) (hx : VRd w v #[c0, c1, c2, c3, c4, c5]) (ht : totV v ≤ 1099511627776) (p : Option Addr) (n c : Nat) :
    Calls Tryz.prog 62 #[.slice (some ⟨w.heap.size + 1 + 1 + 1, 0, none⟩) 1 1] ((((w.alloc (.cells #[c0, c1, c2, c3, c4, c5] 26)).alloc (.cells #[c0, c1, c2, c3, c4, c5] 26)).alloc (.cells #[.slice p n c] 24)).alloc (.cells #[c0, c1, c2, c3, c4, c5] 26))
      fun e w' => e = .returned (.bool (okV v)) ∧ StorB w #[c0, c1, c2, c3, c4, c5] p n c w' ∧ w'.heap[w.heap.size + 1]? = some (.cells #[c0, c1, c2, c3, c4, c5] 26 (0, 0)) := by
  have b1 : Below w.heap.size w (w.alloc (.cells #[c0, c1, c2, c3, c4, c5] 26)) := below_new _
  have h1 := heap_alloc_new w (.cells #[c0, c1, c2, c3, c4, c5] 26)
  have s1 : (w.alloc (.cells #[c0, c1, c2, c3, c4, c5] 26)).heap.size = w.heap.size + 1 := by simp
  generalize w.alloc (.cells #[c0, c1, c2, c3, c4, c5] 26) = w1 at *
  have b2 : Below w1.heap.size w1 (w1.alloc (.cells #[c0, c1, c2, c3, c4, c5] 26)) := below_new _
  have h2 := heap_alloc_new w1 (.cells #[c0, c1, c2, c3, c4, c5] 26)
  have s2 : (w1.alloc (.cells #[c0, c1, c2, c3, c4, c5] 26)).heap.size = w1.heap.size + 1 := by simp
  generalize w1.alloc (.cells #[c0, c1, c2, c3, c4, c5] 26) = w2 at *
  have b3 : Below w2.heap.size w2 (w2.alloc (.cells #[.slice p n c] 24)) := below_new _
  have h3 := heap_alloc_new w2 (.cells #[.slice p n c] 24)
  have s3 : (w2.alloc (.cells #[.slice p n c] 24)).heap.size = w2.heap.size + 1 := by simp
  generalize w2.alloc (.cells #[.slice p n c] 24) = w3 at *
  have b4 : Below w3.heap.size w3 (w3.alloc (.cells #[c0, c1, c2, c3, c4, c5] 26)) := below_new _
  have h4 := heap_alloc_new w3 (.cells #[c0, c1, c2, c3, c4, c5] 26)
  have e3 : w3.heap.size = w.heap.size + 1 + 1 + 1 := by omega
  rw [e3] at h4
  generalize w3.alloc (.cells #[c0, c1, c2, c3, c4, c5] 26) = w4 at *
  have g2 := below_trans b1 b2
  have g3 := below_trans g2 b3
  have g4 := below_trans g3 b4
  have hL := LRd.one h4 (hx.below g4)
  refine (fine_any (hE.b g4) hL (by simp only [totVs]; omega)).mono ?_
  rintro e w5 ⟨rfl, b5⟩
  have k1 := below_trans b2 (below_trans b3 (below_trans b4 b5))
  have k3 := below_trans b4 b5
  have e2 : w2.heap.size = w.heap.size + 2 := by omega
  have e1 : w1.heap.size = w.heap.size + 1 := by omega
  rw [e2] at h3
  rw [e1] at h2
  have k2 := below_trans b3 k3
  exact ⟨ret_bool (by simp [fineL]), ⟨belowBlk k1 (by omega) h1, belowBlk k3 (by omega) h3, below_trans g4 b5⟩, belowBlk k2 (by omega) h2⟩
set_option maxRecDepth 100000 in
set_option maxHeartbeats 4000000 in
theorem storable_any {v : V} {w : World} {x : Array Value} (hE : Env w) (hx : VRd w v x) (ht : totV v ≤ 1099511627776) :
    Calls Tryz.prog 53 #[.agg x] w fun e w' => e = .returned (.bool (okV v && storB v)) ∧ Below w.heap.size w w' := by
  obtain ⟨pk, ck, pl, cl, rfl, htx, hk1, hl1⟩ := hx.open
  have HR := Lib.hid (show storB v = storL (if v.kind = 4 then v.list else [v]) from rfl)
  generalize storB v = R at *
  have hF := fun p n c => stor_fine hE hx ht p n c
  generalize okV v = ok at *
  by_cases h4 : v.kind = 4
  · have HR2 := Lib.hid (show R = storL v.list by rw [HR.out, if_pos h4])
    have HF := Lib.hid (hF pl v.list.length cl)
    have HC := Lib.hid (fun (W : World) (hb : StorB w #[.int .i64 v.kind, .bool v.b, .int .i64 v.n, .string (strB v.text), .slice pk v.keys.length ck, .slice pl v.list.length cl] pl v.list.length cl W) => contains_stor (hl1.below hb.below) hb.box)
    clear HR hF
    rw [← HR2.out] at HC
    rw [h4] at HF HC
    rw [h4]
    clear hx hl1 hE ht htx hk1 h4 HR2
    cases ok with
    | false =>
      go_enter Tryz.func53, Tryz.ntmps53
      go_wp2_with (go_at_call 62; (refine HF.out.mono ?_; rintro e w1 ⟨rfl, hS, _⟩; have HS := Lib.hid hS; clear hS))
      go_ret
      exact ⟨rfl, HS.out.below⟩
    | true =>
      go_enter Tryz.func53, Tryz.ntmps53
      go_wp2_with (first
        | (go_at_call 62
           (
             refine HF.out.mono ?_
             rintro e w1 ⟨rfl, hS, _⟩
             have q0 := cellOf (o := 0) hS.box rfl
             have HS := Lib.hid hS
             clear hS))
        | (go_at_call 90
           (
             refine (HC.out _ HS.out).mono ?_
             rintro e w2 ⟨rfl, hb⟩
             have HB := Lib.hid (below_trans HS.out.below hb)
             clear hb)))
      go_ret
      exact ⟨ret_bool (by simp), HB.out⟩
  · have HR2 := Lib.hid (show R = storL [v] by rw [HR.out, if_neg h4])
    have h4f : (v.kind == 4) = false := by rw [beq_eq_false_iff_ne]; exact h4
    have HF := Lib.hid (hF (some ⟨w.heap.size + 1, 0, none⟩) 1 1)
    have HC := Lib.hid (fun (W : World) (hb : StorB w #[.int .i64 v.kind, .bool v.b, .int .i64 v.n, .string (strB v.text), .slice pk v.keys.length ck, .slice pl v.list.length cl] (some ⟨w.heap.size + 1, 0, none⟩) 1 1 W) (h : W.heap[w.heap.size + 1]? = some (.cells #[.int .i64 v.kind, .bool v.b, .int .i64 v.n, .string (strB v.text), .slice pk v.keys.length ck, .slice pl v.list.length cl] 26 (0, 0))) =>
      contains_stor (l := [v]) (LRd.one h (hx.below hb.below)) hb.box)
    clear HR hF
    rw [← HR2.out] at HC
    clear hx hl1 hE ht htx hk1 h4 HR2
    cases ok with
    | false =>
      go_enter Tryz.func53, Tryz.ntmps53
      go_wp2_with (go_at_call 62; (refine HF.out.mono ?_; rintro e w1 ⟨rfl, hS, _⟩; have HS := Lib.hid hS; clear hS))
      go_ret
      exact ⟨rfl, HS.out.below⟩
    | true =>
      go_enter Tryz.func53, Tryz.ntmps53
      go_wp2_with (first
        | (go_at_call 62
           (
             refine HF.out.mono ?_
             rintro e w1 ⟨rfl, hS, hS2⟩
             have q0 := cellOf (o := 0) hS.box rfl
             have HS := Lib.hid (And.intro hS hS2)
             clear hS hS2))
        | (go_at_call 90
           (
             refine (HC.out _ HS.out.1 HS.out.2).mono ?_
             rintro e w2 ⟨rfl, hb⟩
             have HB := Lib.hid (below_trans HS.out.1.below hb)
             clear hb)))
      go_ret
      exact ⟨ret_bool (by simp), HB.out⟩
end Go.Proofs.YtnkaegdnjfpliaaGreatDoor

/-! The law's kept: of a value with something to spare, and of the value. Printed by gen_keptl.py. -/
namespace Go.Proofs.YtnkaegdnjfpliaaGreatDoor
set_option linter.unusedSimpArgs false
set_option linter.unusedVariables false
open Go.RowKit

theorem slice_keys (g n m c : Nat) (h : m ≤ c) (W : World) : (Instr.sliceAt 23 (.slice (some ⟨g, 0, none⟩) n c) none (some (.int .i64 (m : Int))) none).run Tryz.prog W = .ok (.slice (some ⟨g, 0, none⟩) m c) W := by
  have h1 : (m : Int) ≤ c := by omega
  simp [go_sem, h1, addr_add]
theorem slice_vals (g n m c : Nat) (h : m ≤ c) (W : World) : (Instr.sliceAt 24 (.slice (some ⟨g, 0, none⟩) n c) none (some (.int .i64 (m : Int))) none).run Tryz.prog W = .ok (.slice (some ⟨g, 0, none⟩) m c) W := by
  have h1 : (m : Int) ≤ c := by omega
  simp [go_sem, h1, addr_add]
/-- An element of a list with one to spare, laid open. -/
theorem VSp.elem {w : World} {P : Nat → Prop} {v : V} {x : Array Value} {g o : Nat} (h6 : Six w g o x) (h : VSp w P v x) (ht : totV v ≤ 1000000) : ∃ pk ck pl cl,
    (w.cell? ⟨g, o, none⟩ = some (.int .i64 v.kind) ∧ w.cell? ⟨g, o + 1, none⟩ = some (.bool v.b) ∧ w.cell? ⟨g, o + 2, none⟩ = some (.int .i64 v.n) ∧ w.cell? ⟨g, o + 3, none⟩ = some (.string (strB v.text)) ∧
      w.cell? ⟨g, o + 4, none⟩ = some (.slice pk v.keys.length ck) ∧ w.cell? ⟨g, o + 5, none⟩ = some (.slice pl v.list.length cl)) ∧
    VRd w v #[.int .i64 v.kind, .bool v.b, .int .i64 v.n, .string (strB v.text), .slice pk v.keys.length ck, .slice pl v.list.length cl] ∧
    VSp w P v #[.int .i64 v.kind, .bool v.b, .int .i64 v.n, .string (strB v.text), .slice pk v.keys.length ck, .slice pl v.list.length cl] := by
  have hv := h.open ht
  obtain ⟨pk, ck, pl, cl, e2, _⟩ := hv.open
  subst e2
  obtain ⟨c0, c1, c2, c3, c4, c5, e, h0, h1, h2, h3, h4, h5⟩ := h6
  simp only [Array.mk.injEq, List.cons.injEq, and_true] at e
  obtain ⟨rfl, rfl, rfl, rfl, rfl, rfl⟩ := e
  exact ⟨pk, ck, pl, cl, ⟨h0, h1, h2, h3, h4, h5⟩, hv, h⟩
/-- Two boxes, and what is to spare of the first. -/
structure KpU (w : World) (X Y : Array Value) (g n g2 m : Nat) (W : World) : Prop where
  two : TwoV w W X Y
  sp : W.cell? ⟨g, 0 + n, none⟩ = some (.string (strB spareB))
  st : W.cell? ⟨g2, 0 + m * 6, none⟩ = some (.int .i64 77)
theorem KpU.keep {w W W' : World} {X Y : Array Value} {g n g2 m : Nat} (h : KpU w X Y g n g2 m W) (b : Below W.heap.size W W') : KpU w X Y g n g2 m W' := ⟨h.two.below b, belowCell b (ltOf h.sp) h.sp, belowCell b (ltOf h.st) h.st⟩
/-- Two boxes, and an element of each of the two lists, the first with something to spare. -/
structure KpE (w : World) (P : Nat → Prop) (X Y : Array Value) (s1 : V) (g1 o1 g2 o2 : Nat) (c0 c1 c2 c3 c4 c5 d0 d1 d2 d3 d4 d5 : Value) (W : World) : Prop where
  a : AlU w X Y s1 g1 o1 g2 o2 c0 c1 c2 c3 c4 c5 d0 d1 d2 d3 d4 d5 W
  s : VSp W P s1 #[c0, c1, c2, c3, c4, c5]
theorem KpE.keep {w W W' : World} {P : Nat → Prop} {X Y : Array Value} {s1 : V} {g1 o1 g2 o2 : Nat} {c0 c1 c2 c3 c4 c5 d0 d1 d2 d3 d4 d5 : Value} (h : KpE w P X Y s1 g1 o1 g2 o2 c0 c1 c2 c3 c4 c5 d0 d1 d2 d3 d4 d5 W) (b : Below W.heap.size W W') : KpE w P X Y s1 g1 o1 g2 o2 c0 c1 c2 c3 c4 c5 d0 d1 d2 d3 d4 d5 W' := ⟨h.a.keep b, h.s.below b⟩
set_option maxRecDepth 100000 in
set_option maxHeartbeats 4000000 in
theorem kept_any : ∀ (v : V) (P : Nat → Prop) (w : World) (x y : Array Value), totV v ≤ 1000000 → VSp w P v x → VRd w v y →
    Calls Tryz.prog 22 #[.agg x, .agg y] w fun e w' => e = .returned (.bool true) ∧ Below w.heap.size w w' := by
  refine V.ind fun k b n t ks l ih => ?_
  intro P w x y ht hx hy
  have hxr := hx.open ht
  obtain ⟨g, c, g2, c2, rfl, ⟨f1, f2⟩, ⟨f3, f4, f5⟩, f6⟩ := hx.facts ht
  obtain ⟨pk', ck', pl', cl', rfl, _, hk2, hl2⟩ := VRd_iff.1 hy
  rw [totV_mk] at ht
  have hT := TwoV.start w #[.int .i64 k, .bool b, .int .i64 n, .string (strB t), .slice (some ⟨g, 0, none⟩) ks.length c, .slice (some ⟨g2, 0, none⟩) l.length c2] #[.int .i64 k, .bool b, .int .i64 n, .string (strB t), .slice pk' ks.length ck', .slice pl' l.length cl']
  have z1 : (ks.length : Int) ≤ 140737488355328 := by have := hk2.1; have := hk2.2.1; omega
  have z2 : (l.length : Int) ≤ 140737488355328 := by have := hl2.1.2.1; omega
  have w1 : ks.length + 1 ≤ 4398046511104 := by have := hk2.2.1; omega
  have hlen := totVs_length l
  have w2 : l.length + 1 ≤ 4398046511104 := by omega
  have w3 : ks.length < ks.length + 1 := by omega
  have w4 : l.length < l.length + 1 := by omega
  have hU0 : KpU w #[.int .i64 k, .bool b, .int .i64 n, .string (strB t), .slice (some ⟨g, 0, none⟩) ks.length c, .slice (some ⟨g2, 0, none⟩) l.length c2] #[.int .i64 k, .bool b, .int .i64 n, .string (strB t), .slice pk' ks.length ck', .slice pl' l.length cl'] g ks.length g2 l.length ((w.alloc (.cells #[.int .i64 k, .bool b, .int .i64 n, .string (strB t), .slice (some ⟨g, 0, none⟩) ks.length c, .slice (some ⟨g2, 0, none⟩) l.length c2] 26)).alloc (.cells #[.int .i64 k, .bool b, .int .i64 n, .string (strB t), .slice pk' ks.length ck', .slice pl' l.length cl'] 26)).drew := by
    have hb := hT.2.2
    exact (KpU.mk hT (by rw [Nat.zero_add]; exact belowCell hb (ltOf f2) f2) (by rw [Nat.zero_add]; exact belowCell hb (ltOf f5) f5)).keep (Below.refl _ _).drew
  have HA := Lib.hid (fun (W : World) (hb : Below w.heap.size w W) => alikeR_any _ W _ _ (hxr.below hb) (hy.below hb))
  have HK := Lib.hid hl2
  have HF := Lib.hid f6
  have HI := Lib.hid (fun (s : V) (hs : s ∈ l) => ih s hs P)
  have HM := Lib.hid (fun (s : V) (hs : s ∈ l) => (show totV s ≤ 1000000 by have := totVs_mem hs; omega))
  have hne : ∀ W, (binOp .neq 9 (.string (strB spareB)) (.string (strB spareB))).run Tryz.prog W = .ok (.bool false) W := fun W => by rw [run_neStr]; simp
  have hns : ∀ W, (binOp .neq 22 (.int .i64 77) (.int .i64 77)).run Tryz.prog W = .ok (.bool false) W := fun W => by simp [go_sem]
  clear ih hx hy hxr hT hk2 hl2 f2 f5 f6 ht hlen
  go_enter Tryz.func22, Tryz.ntmps22
  go_wp2
  refine plain_region_draws (fun W => KpU w #[.int .i64 k, .bool b, .int .i64 n, .string (strB t), .slice (some ⟨g, 0, none⟩) ks.length c, .slice (some ⟨g2, 0, none⟩) l.length c2] #[.int .i64 k, .bool b, .int .i64 n, .string (strB t), .slice pk' ks.length ck', .slice pl' l.length cl'] g ks.length g2 l.length W) (by kernel_rfl) hU0 (fun hU => ?_)
  refine take 0 6 (v := .agg #[.int .i64 k, .bool b, .int .i64 n, .string (strB t), .slice (some ⟨g, 0, none⟩) ks.length c, .slice (some ⟨g2, 0, none⟩) l.length c2]) rfl rfl (by kernel_rfl) (by kernel_rfl) (by kernel_rfl) rfl (fun W hW => exec_load rfl rfl (get_val hW.two.1)) (by assumption) ?_
  simp only [Act.put, List.setIfInBounds_toArray, List.set_cons_zero, List.set_cons_succ]
  refine take 1 7 (v := .agg #[.int .i64 k, .bool b, .int .i64 n, .string (strB t), .slice pk' ks.length ck', .slice pl' l.length cl']) rfl rfl (by kernel_rfl) (by kernel_rfl) (by kernel_rfl) rfl (fun W hW => exec_load rfl rfl (get_val hW.two.2.1)) (by assumption) ?_
  simp only [Act.put, List.setIfInBounds_toArray, List.set_cons_zero, List.set_cons_succ]
  refine onlyCall 2 8 rfl rfl (by kernel_rfl) rfl (exec_call [.agg #[.int .i64 k, .bool b, .int .i64 n, .string (strB t), .slice (some ⟨g, 0, none⟩) ks.length c, .slice (some ⟨g2, 0, none⟩) l.length c2], .agg #[.int .i64 k, .bool b, .int .i64 n, .string (strB t), .slice pk' ks.length ck', .slice pl' l.length cl']] rfl rfl Tryz.func39 (by kernel_rfl) (by kernel_rfl)) ?_
  refine (HA.out _ hU.two.2.2).mono ?_
  rintro e w5 ⟨rfl, hb5⟩
  have hU2 := hU.keep hb5
  clear hb5
  refine ⟨_, rfl, .inr hU2, ?_⟩
  simp only [Act.put, List.setIfInBounds_toArray, List.set_cons_zero, List.set_cons_succ]
  refine take 3 9 (v := .bool false) rfl rfl (by kernel_rfl) (by kernel_rfl) (by kernel_rfl) rfl (fun W hW => exec_unot (b := true) rfl rfl) (by assumption) ?_
  simp only [Act.put, List.setIfInBounds_toArray, List.set_cons_zero, List.set_cons_succ]
  refine take 4 10 (v := .bool false) rfl rfl (by kernel_rfl) (by kernel_rfl) (by kernel_rfl) rfl (fun W hW => exec_move rfl rfl) (by assumption) ?_
  simp only [Act.put, List.setIfInBounds_toArray, List.set_cons_zero, List.set_cons_succ]
  refine take 5 11 (v := .pointer (some ⟨w.heap.size, 4, none⟩)) rfl rfl (by kernel_rfl) (by kernel_rfl) (by kernel_rfl) rfl (fun W hW => exec_fieldAddr rfl rfl (fa_value _ _ (by decide) W)) (by assumption) ?_
  simp only [Act.put, List.setIfInBounds_toArray, List.set_cons_zero, List.set_cons_succ]
  refine take 6 12 (v := .slice (some ⟨g, 0, none⟩) ks.length c) rfl rfl (by kernel_rfl) (by kernel_rfl) (by kernel_rfl) rfl (fun W hW => exec_load rfl rfl (run_load1 (w := W) Tryz.underlying23 rfl (cellOf hW.two.1 rfl))) (by assumption) ?_
  simp only [Act.put, List.setIfInBounds_toArray, List.set_cons_zero, List.set_cons_succ]
  refine take 7 13 (v := .pointer (some ⟨w.heap.size + 1, 4, none⟩)) rfl rfl (by kernel_rfl) (by kernel_rfl) (by kernel_rfl) rfl (fun W hW => exec_fieldAddr rfl rfl (fa_value _ _ (by decide) W)) (by assumption) ?_
  simp only [Act.put, List.setIfInBounds_toArray, List.set_cons_zero, List.set_cons_succ]
  refine take 8 14 (v := .slice pk' ks.length ck') rfl rfl (by kernel_rfl) (by kernel_rfl) (by kernel_rfl) rfl (fun W hW => exec_load rfl rfl (run_load1 (w := W) Tryz.underlying23 rfl (cellOf hW.two.2.1 rfl))) (by assumption) ?_
  simp only [Act.put, List.setIfInBounds_toArray, List.set_cons_zero, List.set_cons_succ]
  refine take 9 15 (v := .int .i64 (ks.length : Int)) rfl rfl (by kernel_rfl) (by kernel_rfl) (by kernel_rfl) rfl (fun W hW => exec_lenS rfl rfl) (by assumption) ?_
  simp only [Act.put, List.setIfInBounds_toArray, List.set_cons_zero, List.set_cons_succ]
  refine take 10 16 (v := .int .i64 ((ks.length + 1 : Nat) : Int)) rfl rfl (by kernel_rfl) (by kernel_rfl) (by kernel_rfl) rfl (fun W hW => exec_addn (m := 1) rfl rfl rfl w1) (by assumption) ?_
  simp only [Act.put, List.setIfInBounds_toArray, List.set_cons_zero, List.set_cons_succ]
  refine take 11 17 (v := .slice (some ⟨g, 0, none⟩) (ks.length + 1) c) rfl rfl (by kernel_rfl) (by kernel_rfl) (by kernel_rfl) rfl (fun W hW => exec_slice rfl rfl rfl rfl rfl (slice_keys _ _ _ _ f1 W)) (by assumption) ?_
  simp only [Act.put, List.setIfInBounds_toArray, List.set_cons_zero, List.set_cons_succ]
  refine take 12 18 (v := .pointer (some ⟨w.heap.size + 1, 4, none⟩)) rfl rfl (by kernel_rfl) (by kernel_rfl) (by kernel_rfl) rfl (fun W hW => exec_fieldAddr rfl rfl (fa_value _ _ (by decide) W)) (by assumption) ?_
  simp only [Act.put, List.setIfInBounds_toArray, List.set_cons_zero, List.set_cons_succ]
  refine take 13 19 (v := .slice pk' ks.length ck') rfl rfl (by kernel_rfl) (by kernel_rfl) (by kernel_rfl) rfl (fun W hW => exec_load rfl rfl (run_load1 (w := W) Tryz.underlying23 rfl (cellOf hW.two.2.1 rfl))) (by assumption) ?_
  simp only [Act.put, List.setIfInBounds_toArray, List.set_cons_zero, List.set_cons_succ]
  refine take 14 20 (v := .int .i64 (ks.length : Int)) rfl rfl (by kernel_rfl) (by kernel_rfl) (by kernel_rfl) rfl (fun W hW => exec_lenS rfl rfl) (by assumption) ?_
  simp only [Act.put, List.setIfInBounds_toArray, List.set_cons_zero, List.set_cons_succ]
  refine take 15 21 (v := .pointer (some ⟨g, 0 + ks.length, none⟩)) rfl rfl (by kernel_rfl) (by kernel_rfl) (by kernel_rfl) rfl (fun W hW => exec_indexAddr rfl rfl rfl (ia_keys _ _ _ _ _ w3 W)) (by assumption) ?_
  simp only [Act.put, List.setIfInBounds_toArray, List.set_cons_zero, List.set_cons_succ]
  refine take 16 22 (v := .string (strB spareB)) rfl rfl (by kernel_rfl) (by kernel_rfl) (by kernel_rfl) rfl (fun W hW => exec_load rfl rfl (run_load1 (w := W) Tryz.underlying9 rfl hW.sp)) (by assumption) ?_
  simp only [Act.put, List.setIfInBounds_toArray, List.set_cons_zero, List.set_cons_succ]
  refine take 17 23 (v := .bool false) rfl rfl (by kernel_rfl) (by kernel_rfl) (by kernel_rfl) rfl (fun W hW => exec_bins (m := strB spareB) rfl rfl rfl (hne W)) (by assumption) ?_
  simp only [Act.put, List.setIfInBounds_toArray, List.set_cons_zero, List.set_cons_succ]
  refine take 18 24 (v := .bool false) rfl rfl (by kernel_rfl) (by kernel_rfl) (by kernel_rfl) rfl (fun W hW => rfl) (by assumption) ?_
  simp only [Act.put, List.setIfInBounds_toArray, List.set_cons_zero, List.set_cons_succ]
  refine take 19 25 (v := .bool false) rfl rfl (by kernel_rfl) (by kernel_rfl) (by kernel_rfl) rfl (fun W hW => exec_move rfl rfl) (by assumption) ?_
  simp only [Act.put, List.setIfInBounds_toArray, List.set_cons_zero, List.set_cons_succ]
  refine take 20 26 (v := .pointer (some ⟨w.heap.size, 5, none⟩)) rfl rfl (by kernel_rfl) (by kernel_rfl) (by kernel_rfl) rfl (fun W hW => exec_fieldAddr rfl rfl (fa_value _ _ (by decide) W)) (by assumption) ?_
  simp only [Act.put, List.setIfInBounds_toArray, List.set_cons_zero, List.set_cons_succ]
  refine take 21 27 (v := .slice (some ⟨g2, 0, none⟩) l.length c2) rfl rfl (by kernel_rfl) (by kernel_rfl) (by kernel_rfl) rfl (fun W hW => exec_load rfl rfl (run_load1 (w := W) Tryz.underlying24 rfl (cellOf hW.two.1 rfl))) (by assumption) ?_
  simp only [Act.put, List.setIfInBounds_toArray, List.set_cons_zero, List.set_cons_succ]
  refine take 22 28 (v := .pointer (some ⟨w.heap.size + 1, 5, none⟩)) rfl rfl (by kernel_rfl) (by kernel_rfl) (by kernel_rfl) rfl (fun W hW => exec_fieldAddr rfl rfl (fa_value _ _ (by decide) W)) (by assumption) ?_
  simp only [Act.put, List.setIfInBounds_toArray, List.set_cons_zero, List.set_cons_succ]
  refine take 23 29 (v := .slice pl' l.length cl') rfl rfl (by kernel_rfl) (by kernel_rfl) (by kernel_rfl) rfl (fun W hW => exec_load rfl rfl (run_load1 (w := W) Tryz.underlying24 rfl (cellOf hW.two.2.1 rfl))) (by assumption) ?_
  simp only [Act.put, List.setIfInBounds_toArray, List.set_cons_zero, List.set_cons_succ]
  refine take 24 30 (v := .int .i64 (l.length : Int)) rfl rfl (by kernel_rfl) (by kernel_rfl) (by kernel_rfl) rfl (fun W hW => exec_lenV rfl rfl) (by assumption) ?_
  simp only [Act.put, List.setIfInBounds_toArray, List.set_cons_zero, List.set_cons_succ]
  refine take 25 31 (v := .int .i64 ((l.length + 1 : Nat) : Int)) rfl rfl (by kernel_rfl) (by kernel_rfl) (by kernel_rfl) rfl (fun W hW => exec_addn (m := 1) rfl rfl rfl w2) (by assumption) ?_
  simp only [Act.put, List.setIfInBounds_toArray, List.set_cons_zero, List.set_cons_succ]
  refine take 26 32 (v := .slice (some ⟨g2, 0, none⟩) (l.length + 1) c2) rfl rfl (by kernel_rfl) (by kernel_rfl) (by kernel_rfl) rfl (fun W hW => exec_slice rfl rfl rfl rfl rfl (slice_vals _ _ _ _ f3 W)) (by assumption) ?_
  simp only [Act.put, List.setIfInBounds_toArray, List.set_cons_zero, List.set_cons_succ]
  refine take 27 33 (v := .pointer (some ⟨w.heap.size + 1, 5, none⟩)) rfl rfl (by kernel_rfl) (by kernel_rfl) (by kernel_rfl) rfl (fun W hW => exec_fieldAddr rfl rfl (fa_value _ _ (by decide) W)) (by assumption) ?_
  simp only [Act.put, List.setIfInBounds_toArray, List.set_cons_zero, List.set_cons_succ]
  refine take 28 34 (v := .slice pl' l.length cl') rfl rfl (by kernel_rfl) (by kernel_rfl) (by kernel_rfl) rfl (fun W hW => exec_load rfl rfl (run_load1 (w := W) Tryz.underlying24 rfl (cellOf hW.two.2.1 rfl))) (by assumption) ?_
  simp only [Act.put, List.setIfInBounds_toArray, List.set_cons_zero, List.set_cons_succ]
  refine take 29 35 (v := .int .i64 (l.length : Int)) rfl rfl (by kernel_rfl) (by kernel_rfl) (by kernel_rfl) rfl (fun W hW => exec_lenV rfl rfl) (by assumption) ?_
  simp only [Act.put, List.setIfInBounds_toArray, List.set_cons_zero, List.set_cons_succ]
  refine take 30 36 (v := .pointer (some ⟨g2, 0 + l.length * 6, none⟩)) rfl rfl (by kernel_rfl) (by kernel_rfl) (by kernel_rfl) rfl (fun W hW => exec_indexAddr rfl rfl rfl (ia_vals _ _ _ _ _ w4 W)) (by assumption) ?_
  simp only [Act.put, List.setIfInBounds_toArray, List.set_cons_zero, List.set_cons_succ]
  refine take 31 37 (v := .pointer (some ⟨g2, 0 + l.length * 6, none⟩)) rfl rfl (by kernel_rfl) (by kernel_rfl) (by kernel_rfl) rfl (fun W hW => exec_fieldAddr rfl rfl (fa_first _ _ W)) (by assumption) ?_
  simp only [Act.put, List.setIfInBounds_toArray, List.set_cons_zero, List.set_cons_succ]
  refine take 32 38 (v := .int .i64 77) rfl rfl (by kernel_rfl) (by kernel_rfl) (by kernel_rfl) rfl (fun W hW => exec_load rfl rfl (run_load1 (w := W) Tryz.underlying22 rfl hW.st)) (by assumption) ?_
  simp only [Act.put, List.setIfInBounds_toArray, List.set_cons_zero, List.set_cons_succ]
  refine take 33 39 (v := .bool false) rfl rfl (by kernel_rfl) (by kernel_rfl) (by kernel_rfl) rfl (fun W hW => exec_bini rfl rfl rfl (hns W)) (by assumption) ?_
  simp only [Act.put, List.setIfInBounds_toArray, List.set_cons_zero, List.set_cons_succ]
  refine take 34 40 (v := .bool false) rfl rfl (by kernel_rfl) (by kernel_rfl) (by kernel_rfl) rfl (fun W hW => rfl) (by assumption) ?_
  simp only [Act.put, List.setIfInBounds_toArray, List.set_cons_zero, List.set_cons_succ]
  refine done (by kernel_rfl) ?_ _
  have HT := Lib.hid hU2.two
  clear hU hU0 hU2 hne hns HA
  go_wp2
  have HT0 := HT
  go_loopw [5] (fun i wr => ∃ j : Nat, j ≤ l.length ∧ i = .int .i64 (j : Int) ∧ Hid (TwoV w wr #[.int .i64 k, .bool b, .int .i64 n, .string (strB t), .slice (some ⟨g, 0, none⟩) ks.length c, .slice (some ⟨g2, 0, none⟩) l.length c2] #[.int .i64 k, .bool b, .int .i64 n, .string (strB t), .slice pk' ks.length ck', .slice pl' l.length cl'])) (fun i _ => l.length - (intOf i).toNat)
  case atStart => exact ⟨0, Nat.zero_le _, rfl, HT0⟩
  case round =>
    clear HT HT0
    obtain ⟨j, hj, rfl, HT⟩ := hrel
    have hT1 := HT.out
    have c5 := cellOf (o := 5) hT1.1 rfl
    have q5 := cellOf (o := 5) hT1.2.1 rfl
    by_cases hlt : j < l.length
    · have hlt1 : j + 1 ≤ l.length := hlt
      have hbd : Below w.heap.size w wr.drew := below_trans hT1.2.2 (Below.refl _ _).drew
      obtain ⟨ex, e6, es⟩ := HF.out j l[j] (List.getElem?_eq_getElem hlt)
      obtain ⟨pk1, ck1, pl1, cl1, ⟨a0, a1, a2, a3, a4, a5⟩, hv1, hs1⟩ := VSp.elem (e6.below hbd) (es.below hbd) (HM.out _ (List.getElem_mem hlt))
      obtain ⟨h2, o2, pk2, ck2, pl2, cl2, rfl, ⟨r0, r1, r2, r3, r4, r5⟩, hv2⟩ := (HK.out.below hbd).at hlt
      have hlt2 := hlt
      have HC := Lib.hid (fun W => HI.out l[j] (List.getElem_mem hlt) W)
      have ht1 := HM.out _ (List.getElem_mem hlt)
      generalize l[j] = s1 at *
      rw [show j * 6 = 0 + j * 6 by omega] at a0 a1 a2 a3 a4 a5
      have hU0 : KpE w P #[.int .i64 k, .bool b, .int .i64 n, .string (strB t), .slice (some ⟨g, 0, none⟩) ks.length c, .slice (some ⟨g2, 0, none⟩) l.length c2] #[.int .i64 k, .bool b, .int .i64 n, .string (strB t), .slice pk' ks.length ck', .slice (some ⟨h2, o2, none⟩) l.length cl'] s1 g2 (0 + j * 6) h2 (o2 + j * 6) (.int .i64 s1.kind) (.bool s1.b) (.int .i64 s1.n) (.string (strB s1.text)) (.slice pk1 s1.keys.length ck1) (.slice pl1 s1.list.length cl1) (.int .i64 s1.kind) (.bool s1.b) (.int .i64 s1.n) (.string (strB s1.text)) (.slice pk2 s1.keys.length ck2) (.slice pl2 s1.list.length cl2) wr.drew := ⟨⟨hT1.below (Below.refl _ _).drew, ⟨hbd, a0, a1, a2, a3, a4, a5, r0, r1, r2, r3, r4, r5, hv1, hv2⟩⟩, hs1⟩
      clear a0 a1 a2 a3 a4 a5 r0 r1 r2 r3 r4 r5 hv1 hv2 hbd hT1 e6 es hs1 ex
      go_wp2
      refine plain_region_draws (fun W => KpE w P #[.int .i64 k, .bool b, .int .i64 n, .string (strB t), .slice (some ⟨g, 0, none⟩) ks.length c, .slice (some ⟨g2, 0, none⟩) l.length c2] #[.int .i64 k, .bool b, .int .i64 n, .string (strB t), .slice pk' ks.length ck', .slice (some ⟨h2, o2, none⟩) l.length cl'] s1 g2 (0 + j * 6) h2 (o2 + j * 6) (.int .i64 s1.kind) (.bool s1.b) (.int .i64 s1.n) (.string (strB s1.text)) (.slice pk1 s1.keys.length ck1) (.slice pl1 s1.list.length cl1) (.int .i64 s1.kind) (.bool s1.b) (.int .i64 s1.n) (.string (strB s1.text)) (.slice pk2 s1.keys.length ck2) (.slice pl2 s1.list.length cl2) W) (by kernel_rfl) hU0 (fun hU => ?_)
      refine take 0 48 (v := .pointer (some ⟨w.heap.size, 5, none⟩)) rfl rfl (by kernel_rfl) (by kernel_rfl) (by kernel_rfl) rfl (fun W hW => exec_fieldAddr rfl rfl (fa_value _ _ (by decide) W)) (by assumption) ?_
      simp only [Act.put, List.setIfInBounds_toArray, List.set_cons_zero, List.set_cons_succ]
      refine take 1 49 (v := .slice (some ⟨g2, 0, none⟩) l.length c2) rfl rfl (by kernel_rfl) (by kernel_rfl) (by kernel_rfl) rfl (fun W hW => exec_load rfl rfl (run_load1 (w := W) Tryz.underlying24 rfl (cellOf hW.a.two.1 rfl))) (by assumption) ?_
      simp only [Act.put, List.setIfInBounds_toArray, List.set_cons_zero, List.set_cons_succ]
      refine take 2 50 (v := .int .i64 (j : Int)) rfl rfl (by kernel_rfl) (by kernel_rfl) (by kernel_rfl) rfl (fun W hW => exec_move rfl rfl) (by assumption) ?_
      simp only [Act.put, List.setIfInBounds_toArray, List.set_cons_zero, List.set_cons_succ]
      refine take 3 51 (v := .pointer (some ⟨g2, 0 + j * 6, none⟩)) rfl rfl (by kernel_rfl) (by kernel_rfl) (by kernel_rfl) rfl (fun W hW => exec_indexAddr rfl rfl rfl (ia_vals _ _ _ _ _ hlt W)) (by assumption) ?_
      simp only [Act.put, List.setIfInBounds_toArray, List.set_cons_zero, List.set_cons_succ]
      refine take 4 52 (v := .agg #[.int .i64 s1.kind, .bool s1.b, .int .i64 s1.n, .string (strB s1.text), .slice pk1 s1.keys.length ck1, .slice pl1 s1.list.length cl1]) rfl rfl (by kernel_rfl) (by kernel_rfl) (by kernel_rfl) rfl (fun W hW => exec_load rfl rfl (get_six hW.a.p.h0 hW.a.p.h1 hW.a.p.h2 hW.a.p.h3 hW.a.p.h4 hW.a.p.h5)) (by assumption) ?_
      simp only [Act.put, List.setIfInBounds_toArray, List.set_cons_zero, List.set_cons_succ]
      refine take 5 53 (v := .pointer (some ⟨w.heap.size + 1, 5, none⟩)) rfl rfl (by kernel_rfl) (by kernel_rfl) (by kernel_rfl) rfl (fun W hW => exec_fieldAddr rfl rfl (fa_value _ _ (by decide) W)) (by assumption) ?_
      simp only [Act.put, List.setIfInBounds_toArray, List.set_cons_zero, List.set_cons_succ]
      refine take 6 54 (v := .slice (some ⟨h2, o2, none⟩) l.length cl') rfl rfl (by kernel_rfl) (by kernel_rfl) (by kernel_rfl) rfl (fun W hW => exec_load rfl rfl (run_load1 (w := W) Tryz.underlying24 rfl (cellOf hW.a.two.2.1 rfl))) (by assumption) ?_
      simp only [Act.put, List.setIfInBounds_toArray, List.set_cons_zero, List.set_cons_succ]
      refine take 7 55 (v := .int .i64 (j : Int)) rfl rfl (by kernel_rfl) (by kernel_rfl) (by kernel_rfl) rfl (fun W hW => exec_move rfl rfl) (by assumption) ?_
      simp only [Act.put, List.setIfInBounds_toArray, List.set_cons_zero, List.set_cons_succ]
      refine take 8 56 (v := .pointer (some ⟨h2, o2 + j * 6, none⟩)) rfl rfl (by kernel_rfl) (by kernel_rfl) (by kernel_rfl) rfl (fun W hW => exec_indexAddr rfl rfl rfl (ia_vals _ _ _ _ _ hlt2 W)) (by assumption) ?_
      simp only [Act.put, List.setIfInBounds_toArray, List.set_cons_zero, List.set_cons_succ]
      refine take 9 57 (v := .agg #[.int .i64 s1.kind, .bool s1.b, .int .i64 s1.n, .string (strB s1.text), .slice pk2 s1.keys.length ck2, .slice pl2 s1.list.length cl2]) rfl rfl (by kernel_rfl) (by kernel_rfl) (by kernel_rfl) rfl (fun W hW => exec_load rfl rfl (get_six hW.a.p.q0 hW.a.p.q1 hW.a.p.q2 hW.a.p.q3 hW.a.p.q4 hW.a.p.q5)) (by assumption) ?_
      simp only [Act.put, List.setIfInBounds_toArray, List.set_cons_zero, List.set_cons_succ]
      refine onlyCall 10 58 rfl rfl (by kernel_rfl) rfl (exec_call [.agg #[.int .i64 s1.kind, .bool s1.b, .int .i64 s1.n, .string (strB s1.text), .slice pk1 s1.keys.length ck1, .slice pl1 s1.list.length cl1], .agg #[.int .i64 s1.kind, .bool s1.b, .int .i64 s1.n, .string (strB s1.text), .slice pk2 s1.keys.length ck2, .slice pl2 s1.list.length cl2]] rfl rfl Tryz.func22 (by kernel_rfl) (by kernel_rfl)) ?_
      refine (HC.out _ _ _ ht1 hU.s hU.a.p.r2).mono ?_
      rintro e w5 ⟨rfl, hb5⟩
      have hU2 := hU.keep hb5
      clear hb5
      refine ⟨_, rfl, .inr hU2, ?_⟩
      simp only [Act.put, List.setIfInBounds_toArray, List.set_cons_zero, List.set_cons_succ]
      refine take 11 59 (v := .bool false) rfl rfl (by kernel_rfl) (by kernel_rfl) (by kernel_rfl) rfl (fun W hW => exec_unot (b := true) rfl rfl) (by assumption) ?_
      simp only [Act.put, List.setIfInBounds_toArray, List.set_cons_zero, List.set_cons_succ]
      refine done (by kernel_rfl) ?_ _
      have HT0 := Lib.hid hU2.a.two
      have c5 := cellOf (o := 5) hU2.a.two.1 rfl
      have q5 := cellOf (o := 5) hU2.a.two.2.1 rfl
      clear hU hU0 hU2 HC
      go_wp2
      go_roundw
      case rel => exact ⟨j + 1, by omega, by go_num, HT0⟩
      case measure => simp [intOf]; omega
    · obtain rfl : j = l.length := by omega
      have HF := Lib.hid hT1.2.2
      clear hT1
      go_wp2
      go_ret
      exact ⟨rfl, HF.out⟩
end Go.Proofs.YtnkaegdnjfpliaaGreatDoor

/-! The law's copied. Printed by gen_copied.py. -/
namespace Go.Proofs.YtnkaegdnjfpliaaGreatDoor
set_option linter.unusedSimpArgs false
set_option linter.unusedVariables false
open Go.RowKit

/-- What copied makes of a value. -/
def CpOk (w : World) (v : V) (e : Ending) (w' : World) : Prop := ∃ x, e = .returned (.agg x) ∧ VSp w' (fun b => w.heap.size ≤ b) v x ∧ Below w.heap.size w w'
theorem exec_buildSlice0 {P : Program} {a : Act} {w w' : World} {o : Oper} {v : Value} {t : TypeId} (ho : o.op = .buildSlice t 0 #[]) (hr : (Instr.buildSlice t 0 #[]).run P w = .ok v w') : (execOp a.eval o).run P w = .ok (.value v) w' := exec_buildSlice ho (by simp) hr
/-- What the loop of copied keeps. -/
structure CpW (w W : World) (X Z : Array Value) (n1 g n c : Nat) (ys : List Value) (o : Value) (m : List V) : Prop where
  two : TwoV w W X Z
  keys : OwnsP W (fun b => w.heap.size + 2 ≤ b) 9 1 (.slice (some ⟨g, 0, none⟩) n c) n ys
  low : g < n1
  big : w.heap.size + 2 ≤ n1
  size : n1 ≤ W.heap.size
  row : CpI n1 W o m
theorem CpW.below {w W W' : World} {X Z : Array Value} {n1 g n c : Nat} {ys : List Value} {o : Value} {m : List V} (h : CpW w W X Z n1 g n c ys o m) (b : Below W.heap.size W W') : CpW w W' X Z n1 g n c ys o m :=
  ⟨h.two.below b, h.keys.keep fun q _ hq => b.block q hq, h.low, h.big, Nat.le_trans h.size b.size, h.row.below b⟩
theorem CpW.turn {w W W' : World} {X Z : Array Value} {n1 g n c : Nat} {ys : List Value} {o o' : Value} {m m' : List V} (h : CpW w W X Z n1 g n c ys o m) (b : Below n1 W W') (hr : CpI n1 W' o' m') : CpW w W' X Z n1 g n c ys o' m' :=
  ⟨h.two.low (b.mono h.big), ⟨ownsRow_heap h.keys.1 fun q hq => by cases hq; exact b.block _ h.low, h.keys.2⟩, h.low, h.big, Nat.le_trans h.size b.size, hr⟩
/-- The box's keys are put. -/
theorem CpW.begin {w W : World} {Z : Array Value} {x0 x1 x2 x3 x4 x5 : Value} {g n c : Nat} {ys : List Value} {u : Value} (hT : TwoV w W #[x0, x1, x2, x3, x4, x5] Z) (hk : OwnsP W (fun b => w.heap.size + 2 ≤ b) 9 1 (.slice (some ⟨g, 0, none⟩) n c) n ys) :
    CpW w (W.setCell ⟨w.heap.size, 4, none⟩ u) #[x0, x1, x2, x3, u, x5] Z W.heap.size g n c ys (.slice none 0 0) [] := by
  have hg := hk.1.lt g rfl
  have hoth := fun (b : Nat) (hb : b ≠ w.heap.size) => Below.heap_setCell W ⟨w.heap.size, 4, none⟩ u b hb
  have hg2 := hk.2 g rfl
  have hsz : (W.setCell ⟨w.heap.size, 4, none⟩ u).heap.size = W.heap.size := by simp
  exact ⟨⟨box_set (k := 4) u hT.1, (hoth _ (by omega)).trans hT.2.1, belowSet hT.2.2 (Nat.le_refl _) u⟩, hk.keep fun b hb _ => hoth b (by omega), hg.2, by omega, by omega, CpI.start _ _⟩
theorem CpW.free {w W : World} {X Z : Array Value} (hT : TwoV w W X Z) (o : Nat) : W.frozen? ⟨w.heap.size, o, none⟩ = false := freeOf hT.1
/-- The end of copied: the one to spare behind the list, the list put in the box, the box told. -/
theorem CpW.finish {w W : World} {k : Int} {b : Bool} {n : Int} {t : List UInt8} {ks : List (List UInt8)} {l : List V} {x5 z0 z1 z2 z3 z4 z5 : Value} {n1 g c h : Nat} {o : Value}
    (hJ : CpW w W #[.int .i64 k, .bool b, .int .i64 n, .string (strB t), .slice (some ⟨g, 0, none⟩) ks.length c, x5] #[z0, z1, z2, z3, z4, z5] n1 g (ks.length + 1) c (ks.map strV ++ [strV spareB]) o l)
    (hh : W.heap[h]? = some (.cells sentX 26 (0, 0))) (hn : l.length ≤ 1000000) (ty : TypeId) :
    ∃ g2 c2 W2, (Builtin.append_ #[24, 24] ty #[o, .slice (some ⟨h, 0, none⟩) 1 1]).run Tryz.prog W = .ok (.slice (some ⟨g2, 0, none⟩) (l.length + 1) c2) W2 ∧ l.length + 1 ≤ c2 ∧
      TwoV w W2 #[.int .i64 k, .bool b, .int .i64 n, .string (strB t), .slice (some ⟨g, 0, none⟩) ks.length c, x5] #[z0, z1, z2, z3, z4, z5] ∧
      ∃ W4, TwoV w (W2.setCell ⟨w.heap.size, 5, none⟩ (.slice (some ⟨g2, 0, none⟩) l.length c2)) #[.int .i64 k, .bool b, .int .i64 n, .string (strB t), .slice (some ⟨g, 0, none⟩) ks.length c, .slice (some ⟨g2, 0, none⟩) l.length c2] #[z0, z1, z2, z3, z4, z5] ∧
        (storeVar 26 ⟨w.heap.size + 1, 0, none⟩ (.agg #[.int .i64 k, .bool b, .int .i64 n, .string (strB t), .slice (some ⟨g, 0, none⟩) ks.length c, .slice (some ⟨g2, 0, none⟩) l.length c2])).run Tryz.prog (W2.setCell ⟨w.heap.size, 5, none⟩ (.slice (some ⟨g2, 0, none⟩) l.length c2)) = .ok () W4 ∧
        (loadVar 26 ⟨w.heap.size + 1, 0, none⟩).run Tryz.prog W4 = .ok (.agg #[.int .i64 k, .bool b, .int .i64 n, .string (strB t), .slice (some ⟨g, 0, none⟩) ks.length c, .slice (some ⟨g2, 0, none⟩) l.length c2]) W4 ∧
        VSp W4 (fun q => w.heap.size ≤ q) (.mk k b n t ks l) #[.int .i64 k, .bool b, .int .i64 n, .string (strB t), .slice (some ⟨g, 0, none⟩) ks.length c, .slice (some ⟨g2, 0, none⟩) l.length c2] ∧ Below w.heap.size w W4 := by
  obtain ⟨g2, c2, W2, a1, ⟨xs, r1, r2⟩, lo⟩ := hJ.row.last hJ.size hh hn ty
  have hT2 := hJ.two.low (lo.mono hJ.big)
  have hk2 : OwnsP W2 (fun b => w.heap.size + 2 ≤ b) 9 1 (.slice (some ⟨g, 0, none⟩) (ks.length + 1) c) (ks.length + 1) (ks.map strV ++ [strV spareB]) := ⟨ownsRow_heap hJ.keys.1 fun q hq => by cases hq; exact lo.block _ hJ.low, hJ.keys.2⟩
  have hc2 : l.length + 1 ≤ c2 := by
    rcases r1.1.2 with ⟨e, _⟩ | ⟨g', cap', cur, e, _, _, hnc, _⟩
    · cases e
    · cases e; exact hnc
  have hoth := fun (q : Nat) (hq : q ≠ w.heap.size) => Below.heap_setCell W2 ⟨w.heap.size, 5, none⟩ (.slice (some ⟨g2, 0, none⟩) l.length c2) q hq
  have hT3 : TwoV w (W2.setCell ⟨w.heap.size, 5, none⟩ (.slice (some ⟨g2, 0, none⟩) l.length c2)) #[.int .i64 k, .bool b, .int .i64 n, .string (strB t), .slice (some ⟨g, 0, none⟩) ks.length c, .slice (some ⟨g2, 0, none⟩) l.length c2] #[z0, z1, z2, z3, z4, z5] :=
    ⟨box_set (k := 5) _ hT2.1, (hoth _ (by omega)).trans hT2.2.1, belowSet hT2.2.2 (Nat.le_refl _) _⟩
  have hk3 := hk2.keep (w' := W2.setCell ⟨w.heap.size, 5, none⟩ (.slice (some ⟨g2, 0, none⟩) l.length c2)) fun q hq _ => hoth q (by omega)
  have hbig := hJ.big
  have r3 := r1.keep (w' := W2.setCell ⟨w.heap.size, 5, none⟩ (.slice (some ⟨g2, 0, none⟩) l.length c2)) fun q hq _ => hoth q (by omega)
  have r4 := r2.keep (w' := W2.setCell ⟨w.heap.size, 5, none⟩ (.slice (some ⟨g2, 0, none⟩) l.length c2)) fun q hq _ => hoth q (by omega)
  refine ⟨g2, c2, W2, a1, hc2, hT2, ?_⟩
  clear hoth hk2 r1 r2 a1 lo hT2
  generalize W2.setCell ⟨w.heap.size, 5, none⟩ (.slice (some ⟨g2, 0, none⟩) l.length c2) = W3 at *
  have hst := run_storeVar_row (P := Tryz.prog) W3 (w.heap.size + 1) 26 26 _ #[.int .i64 k, .bool b, .int .i64 n, .string (strB t), .slice (some ⟨g, 0, none⟩) ks.length c, .slice (some ⟨g2, 0, none⟩) l.length c2] hT3.2.1 (by kernel_rfl) rfl (by simp [Value.oneCell'])
  have hy := setRow_heap W3 (w.heap.size + 1) _ #[.int .i64 k, .bool b, .int .i64 n, .string (strB t), .slice (some ⟨g, 0, none⟩) ks.length c, .slice (some ⟨g2, 0, none⟩) l.length c2] 26 _ hT3.2.1
  have hoth := fun (q : Nat) (hq : w.heap.size + 2 ≤ q) => setRow_other W3 (w.heap.size + 1) q #[.int .i64 k, .bool b, .int .i64 n, .string (strB t), .slice (some ⟨g, 0, none⟩) ks.length c, .slice (some ⟨g2, 0, none⟩) l.length c2] (by omega)
  have hT5 : Touch (fun q => q = w.heap.size + 1) W3 (W3.setRow (w.heap.size + 1) #[.int .i64 k, .bool b, .int .i64 n, .string (strB t), .slice (some ⟨g, 0, none⟩) ks.length c, .slice (some ⟨g2, 0, none⟩) l.length c2]) := ⟨rfl, rfl, rfl, by simp, fun q _ hq => setRow_other W3 (w.heap.size + 1) q _ hq⟩
  refine ⟨_, hT3, hst, get_val hy, VSp_iff.2 ⟨g, c, g2, c2, xs, rfl, (hk3.keep fun q hq _ => hoth q hq).imp fun q _ hq => by omega, (r3.keep fun q hq _ => hoth q (by omega)).imp fun q _ hq => by omega, (r4.keep fun q hq _ => hoth q (by omega)).imp fun q _ hq => by omega⟩, hT5.below hT3.2.2 (fun q hq e => by omega) hT3.2.2.size⟩
theorem exec_buildSent {a : Act} {w : World} {o : Oper} (ho : o.op = .build 26 #[(0, .const (.int .i64 77))]) : (execOp a.eval o).run Tryz.prog w = .ok (.value (.agg sentX)) w := by
  unfold execOp; simp [ho, go_sem, sentX, Act.eval]
set_option maxRecDepth 100000 in
set_option maxHeartbeats 8000000 in
theorem copied_any : ∀ (v : V), totV v ≤ 1000000 → ∀ (w : World) (x : Array Value), VRd w v x → Calls Tryz.prog 17 #[.agg x] w (CpOk w v) := by
  refine V.ind fun k b n t ks l ih => ?_
  intro ht w x hx
  rw [totV_mk] at ht
  have hlen := totVs_length l
  obtain ⟨pk, ck, pl, cl, rfl, _, hk1, hl1⟩ := VRd_iff.1 hx
  have z1 : (ks.length : Int) ≤ 1000000 := by omega
  have z2 : (l.length : Int) ≤ 1000000 := by omega
  have w1 : ks.length ≤ 1000000 := by omega
  have w2 : l.length ≤ 1000000 := by omega
  have hT := TwoV.start w #[.int .i64 k, .bool b, .int .i64 n, .string (strB t), .slice pk ks.length ck, .slice pl l.length cl] #[.int .i64 0, .bool false, .int .i64 0, .string ⟨#[]⟩, .slice none 0 0, .slice none 0 0]
  have HK := Lib.hid hk1
  have HL := Lib.hid hl1
  have HI := Lib.hid (fun (s : V) (hs : s ∈ l) => ih s hs (by have := totVs_mem hs; omega))
  have HM := Lib.hid (fun (s : V) (hs : s ∈ l) => (show totV s ≤ 1000000 by have := totVs_mem hs; omega))
  have he : ∀ W : World, (Instr.buildSlice 23 0 #[]).run Tryz.prog W = .ok (.slice (some ⟨W.heap.size, 0, none⟩) 0 0) (W.alloc (.cells #[] 9)) := fun W => by simp [go_sem]
  have hs : ∀ W : World, (Instr.buildSlice 23 1 #[(0, .string (strB spareB))]).run Tryz.prog W = .ok (.slice (some ⟨W.heap.size, 0, none⟩) 1 1) (W.alloc (.cells #[.string (strB spareB)] 9)) := fun W => run_buildSlice_one (P := Tryz.prog) (w := W) (v := .string (strB spareB)) Tryz.underlying23 Tryz.sizeOf9 Tryz.zeroValue9 rfl (by omega) (by omega)
  clear ih hx hk1 hl1 ht hlen
  go_enter Tryz.func17, Tryz.ntmps17
  go_wp2
  generalize (w.alloc _).alloc _ = V0 at *
  have hU0 := hT.below (show Below V0.heap.size V0 V0.drew from (Below.refl _ _).drew)
  clear hT
  refine plain_region_draws (fun W => TwoV w W #[.int .i64 k, .bool b, .int .i64 n, .string (strB t), .slice pk ks.length ck, .slice pl l.length cl] #[.int .i64 0, .bool false, .int .i64 0, .string ⟨#[]⟩, .slice none 0 0, .slice none 0 0]) (by kernel_rfl) hU0 (fun hU => ?_)
  clear hU
  generalize V0.drew = W0 at *
  have hT := hU0
  have hn0 : w.heap.size + 2 ≤ W0.heap.size := (Array.getElem?_eq_some_iff.1 hT.2.1).1
  refine take 1 6 (v := .pointer (some ⟨w.heap.size, 4, none⟩)) rfl rfl (by kernel_rfl) (by kernel_rfl) (by kernel_rfl) rfl (fun W hW => exec_fieldAddr rfl rfl (fa_value _ _ (by decide) W)) (by assumption) ?_
  simp only [Act.put, List.setIfInBounds_toArray, List.set_cons_zero, List.set_cons_succ]
  refine take 2 7 (v := .slice pk ks.length ck) rfl rfl (by kernel_rfl) (by kernel_rfl) (by kernel_rfl) rfl (fun W hW => exec_load rfl rfl (run_load1 (w := W) Tryz.underlying23 rfl (cellOf hW.1 rfl))) (by assumption) ?_
  simp only [Act.put, List.setIfInBounds_toArray, List.set_cons_zero, List.set_cons_succ]
  refine take 6 11 (v := .pointer (some ⟨w.heap.size, 4, none⟩)) rfl rfl (by kernel_rfl) (by kernel_rfl) (by kernel_rfl) rfl (fun W hW => exec_fieldAddr rfl rfl (fa_value _ _ (by decide) W)) (by assumption) ?_
  simp only [Act.put, List.setIfInBounds_toArray, List.set_cons_zero, List.set_cons_succ]
  refine take 7 12 (v := .slice pk ks.length ck) rfl rfl (by kernel_rfl) (by kernel_rfl) (by kernel_rfl) rfl (fun W hW => exec_load rfl rfl (run_load1 (w := W) Tryz.underlying23 rfl (cellOf hW.1 rfl))) (by assumption) ?_
  simp only [Act.put, List.setIfInBounds_toArray, List.set_cons_zero, List.set_cons_succ]
  refine take 8 13 (v := .int .i64 (ks.length : Int)) rfl rfl (by kernel_rfl) (by kernel_rfl) (by kernel_rfl) rfl (fun W hW => exec_lenS rfl rfl) (by assumption) ?_
  simp only [Act.put, List.setIfInBounds_toArray, List.set_cons_zero, List.set_cons_succ]
  refine either 0 4 (by kernel_rfl) ?_ ?_
  · have hU1 := hT.below (below_new (.cells #[] 9))
    have e0 := empty_row (W := W0) (w.heap.size + 2) hn0
    have g0 : W0.heap.size < (W0.alloc (.cells #[] 9)).heap.size := by simp
    refine opRun 0 5 (v := .slice (some ⟨W0.heap.size, 0, none⟩) 0 0) rfl rfl (by kernel_rfl) (exec_buildSlice0 rfl (he _)) ⟨.inr hU1, ?_⟩
    simp only [Act.put, List.setIfInBounds_toArray, List.set_cons_zero, List.set_cons_succ]
    generalize W0.alloc (.cells #[] 9) = W1 at *
    have hn1 : w.heap.size + 2 ≤ W1.heap.size := by omega
    refine either 3 4 (by kernel_rfl) ?_ ?_
    · obtain ⟨v1, W2, a1, k1, lo1, _⟩ := keys_one (w := w) e0 (HK.out.below hU1.2.2) w1 hn1 23
      have hU2 := hU1.low lo1
      have hn2 : w.heap.size + 2 ≤ W2.heap.size := Nat.le_trans hn1 lo1.size
      refine opRun 3 8 (v := v1) rfl rfl (by kernel_rfl) (exec_append rfl rfl rfl a1) ⟨.inr hU2, ?_⟩
      simp only [Act.put, List.setIfInBounds_toArray, List.set_cons_zero, List.set_cons_succ]
      have hU3 := hU2.below (below_new (.cells #[.string (strB spareB)] 9))
      have k3 := k1.keep (w' := W2.alloc (.cells #[.string (strB spareB)] 9)) (fun b _ h => (below_new (w := W2) (.cells #[.string (strB spareB)] 9)).block b h)
      have hh := heap_alloc_new W2 (.cells #[.string (strB spareB)] 9)
      have hn3 : w.heap.size + 2 ≤ (W2.alloc (.cells #[.string (strB spareB)] 9)).heap.size := by simp; omega
      refine onlyRun 4 9 (v := .slice (some ⟨W2.heap.size, 0, none⟩) 1 1) rfl rfl (by kernel_rfl) rfl (exec_buildSlice1 rfl rfl (hs _)) (.inr hU3) ?_
      simp only [Act.put, List.setIfInBounds_toArray, List.set_cons_zero, List.set_cons_succ]
      generalize W2.alloc (.cells #[.string (strB spareB)] 9) = W3 at *
      obtain ⟨g, c, V4, a4, k4, lo4, hc4⟩ := keys_two k3 hh w1 hn3 23
      have hU4 := hU3.low lo4
      refine onlyRun 5 10 (v := .slice (some ⟨g, 0, none⟩) (ks.length + 1) c) rfl rfl (by kernel_rfl) rfl (exec_append rfl rfl rfl a4) (.inr hU4) ?_
      simp only [Act.put, List.setIfInBounds_toArray, List.set_cons_zero, List.set_cons_succ]
      refine take 9 14 (v := .slice (some ⟨g, 0, none⟩) ks.length c) rfl rfl (by kernel_rfl) (by kernel_rfl) (by kernel_rfl) rfl (fun W hW => exec_slice rfl rfl rfl rfl rfl (slice_keys _ _ _ _ (by omega) W)) (by assumption) ?_
      simp only [Act.put, List.setIfInBounds_toArray, List.set_cons_zero, List.set_cons_succ]
      refine take 10 15 (v := .pointer (some ⟨w.heap.size, 4, none⟩)) rfl rfl (by kernel_rfl) (by kernel_rfl) (by kernel_rfl) rfl (fun W hW => exec_fieldAddr rfl rfl (fa_value _ _ (by decide) W)) (by assumption) ?_
      simp only [Act.put, List.setIfInBounds_toArray, List.set_cons_zero, List.set_cons_succ]
      refine onlySkip 11 rfl rfl (by kernel_rfl) rfl (exec_store rfl rfl rfl (put_keys (cellOf (o := 4) hU4.1 rfl) (CpW.free hU4 4))) (.inl (by kernel_rfl)) ?_
      refine done (by kernel_rfl) ?_ _
      have HW := Lib.hid (CpW.begin (u := .slice (some ⟨g, 0, none⟩) ks.length c) hU4 k4)
      generalize V4.setCell _ _ = V5 at *
      generalize V4.heap.size = n1 at *
      have c5 := cellOf (o := 5) HW.out.two.1 rfl
      clear a1 a4 hT hU0 hU1 hU2 hU3 hU4 k3 k4 lo1 lo4 hc4 hh e0 he hs hn0 hn1 hn2 hn3 g0
      (try clear hh1); (try clear hh2); (try clear hl2); (try clear hoth); (try clear k1); (try clear g1); (try clear e2)
      go_wp2
      have HW0 := HW
      go_loopw [3, 4] (fun o i wr => ∃ (j : Nat) (ov : Value), j ≤ l.length ∧ i = .int .i64 (j : Int) ∧ ov = o ∧ Hid (CpW w wr #[.int .i64 k, .bool b, .int .i64 n, .string (strB t), .slice (some ⟨g, 0, none⟩) ks.length c, .slice pl l.length cl] #[.int .i64 0, .bool false, .int .i64 0, .string ⟨#[]⟩, .slice none 0 0, .slice none 0 0] n1 g (ks.length + 1) c (ks.map strV ++ [strV spareB]) ov (l.take j))) (fun _ i _ => l.length - (intOf i).toNat)
      case atStart => exact ⟨0, _, Nat.zero_le _, rfl, rfl, HW0⟩
      case round =>
        clear HW HW0 c5
        obtain ⟨j, ov, hj, rfl, rfl, HJ⟩ := hrel
        have c5 := cellOf (o := 5) HJ.out.two.1 rfl
        by_cases hlt : j < l.length
        · have hlt1 : j + 1 ≤ l.length := hlt
          have htk : l.take (j + 1) = l.take j ++ [l[j]] := List.take_succ_eq_append_getElem hlt
          obtain ⟨g1, o1, pk1, ck1, pl1, cl1, rfl, ⟨a0, a1, a2, a3, a4, a5⟩, hv1⟩ := (HL.out.below HJ.out.two.2.2).at hlt
          have hcall := HI.out l[j] (List.getElem_mem hlt)
          have htv := HM.out l[j] (List.getElem_mem hlt)
          generalize l[j] = s1 at *
          have HD := Lib.hid (And.intro htk (And.intro hcall (And.intro hv1 (And.intro htv w2))))
          clear htk hcall hv1 htv
          go_wp2_with (first
            | (go_at_call 17
               (
                 refine (HD.out.2.1 _ _ HD.out.2.2.1).mono ?_
                 rintro e w5 ⟨x, rfl, hx, hb⟩
                 obtain ⟨v', W6, ha, hI, hlo⟩ := HJ.out.row.step HJ.out.size (Nat.le_refl _) hb hx (by rw [List.length_take]; have := HD.out.2.2.2.2; omega) 24
                 rw [← HD.out.1] at hI
                 have hN := HJ.out.turn hlo hI
                 obtain ⟨_, _, _, _, rfl, _⟩ := (hx.open HD.out.2.2.2.1).open
                 have Ha := Lib.hid ha
                 have HN := Lib.hid hN
                 clear ha hI hx hb hlo hN))
            | (refine wpList_append rfl rfl rfl rfl Ha.out ?_))
          go_roundw
          case rel => exact ⟨j + 1, _, hlt1, by go_num, rfl, HN⟩
          case measure => simp [intOf]; omega
        · obtain rfl : j = l.length := by omega
          have hJ := HJ.out.below (show Below wr.heap.size wr wr.drew from (Below.refl _ _).drew)
          rw [List.take_length] at hJ
          have hU0 := hJ.two
          have HJ2 := Lib.hid hJ
          have hb1 : ∀ W : World, (Instr.buildSlice 24 1 #[(0, .agg sentX)]).run Tryz.prog W = .ok (.slice (some ⟨W.heap.size, 0, none⟩) 1 1) (W.alloc (.cells sentX 26)) := fun W => run_buildSlice_one (P := Tryz.prog) (w := W) (v := .agg sentX) Tryz.underlying24 Tryz.sizeOf26 Tryz.zeroValue26 rfl (by omega) (by omega)
          have HB1 := Lib.hid hb1
          clear hJ hb1
          go_wp2
          refine plain_region_draws (fun W => TwoV w W #[.int .i64 k, .bool b, .int .i64 n, .string (strB t), .slice (some ⟨g, 0, none⟩) ks.length c, .slice pl l.length cl] #[.int .i64 0, .bool false, .int .i64 0, .string ⟨#[]⟩, .slice none 0 0, .slice none 0 0]) (by kernel_rfl) hU0 (fun hU => ?_)
          refine take 0 32 (v := ov) rfl rfl (by kernel_rfl) (by kernel_rfl) (by kernel_rfl) rfl (fun W hW => exec_move rfl rfl) (by assumption) ?_
          simp only [Act.put, List.setIfInBounds_toArray, List.set_cons_zero, List.set_cons_succ]
          refine take 1 33 (v := .agg sentX) rfl rfl (by kernel_rfl) (by kernel_rfl) (by kernel_rfl) rfl (fun W hW => exec_buildSent rfl) (by assumption) ?_
          simp only [Act.put, List.setIfInBounds_toArray, List.set_cons_zero, List.set_cons_succ]
          refine take 4 36 (v := .pointer (some ⟨w.heap.size, 5, none⟩)) rfl rfl (by kernel_rfl) (by kernel_rfl) (by kernel_rfl) rfl (fun W hW => exec_fieldAddr rfl rfl (fa_value _ _ (by decide) W)) (by assumption) ?_
          simp only [Act.put, List.setIfInBounds_toArray, List.set_cons_zero, List.set_cons_succ]
          refine take 5 37 (v := .slice pl l.length cl) rfl rfl (by kernel_rfl) (by kernel_rfl) (by kernel_rfl) rfl (fun W hW => exec_load rfl rfl (run_load1 (w := W) Tryz.underlying24 rfl (cellOf hW.1 rfl))) (by assumption) ?_
          simp only [Act.put, List.setIfInBounds_toArray, List.set_cons_zero, List.set_cons_succ]
          refine take 6 38 (v := .int .i64 (l.length : Int)) rfl rfl (by kernel_rfl) (by kernel_rfl) (by kernel_rfl) rfl (fun W hW => exec_lenV rfl rfl) (by assumption) ?_
          simp only [Act.put, List.setIfInBounds_toArray, List.set_cons_zero, List.set_cons_succ]
          obtain ⟨g2, c2, W6, ha, hc2, hT6, W8, hT7, hst, hld, hsp, hbw⟩ := (HJ2.out.below (below_new (.cells sentX 26))).finish (heap_alloc_new wr.drew _) w2 24
          refine onlyRun 2 34 (v := .slice (some ⟨wr.drew.heap.size, 0, none⟩) 1 1) rfl rfl (by kernel_rfl) rfl (exec_buildSlice1 rfl rfl (HB1.out _)) (.inr (hU.below (below_new _))) ?_
          simp only [Act.put, List.setIfInBounds_toArray, List.set_cons_zero, List.set_cons_succ]
          refine onlyRun 3 35 (v := .slice (some ⟨g2, 0, none⟩) (l.length + 1) c2) rfl rfl (by kernel_rfl) rfl (exec_append rfl rfl rfl ha) (.inr hT6) ?_
          simp only [Act.put, List.setIfInBounds_toArray, List.set_cons_zero, List.set_cons_succ]
          refine take 7 39 (v := .slice (some ⟨g2, 0, none⟩) l.length c2) rfl rfl (by kernel_rfl) (by kernel_rfl) (by kernel_rfl) rfl (fun W hW => exec_slice rfl rfl rfl rfl rfl (slice_vals _ _ _ _ (by omega) W)) (by assumption) ?_
          simp only [Act.put, List.setIfInBounds_toArray, List.set_cons_zero, List.set_cons_succ]
          refine take 8 40 (v := .pointer (some ⟨w.heap.size, 5, none⟩)) rfl rfl (by kernel_rfl) (by kernel_rfl) (by kernel_rfl) rfl (fun W hW => exec_fieldAddr rfl rfl (fa_value _ _ (by decide) W)) (by assumption) ?_
          simp only [Act.put, List.setIfInBounds_toArray, List.set_cons_zero, List.set_cons_succ]
          refine onlySkip 9 rfl rfl (by kernel_rfl) rfl (exec_store rfl rfl rfl (put_vals (cellOf (o := 5) hT6.1 rfl) (CpW.free hT6 5))) (.inl (by kernel_rfl)) ?_
          refine done (by kernel_rfl) ?_ _
          have HL0 := Lib.hid (get_val hT7.1)
          have HST := Lib.hid hst
          have HF := Lib.hid (And.intro hld (And.intro hsp hbw))
          generalize W6.setCell _ _ = W7 at *
          clear ha hc2 hT6 hT7 hst hld hsp hbw hU hU0 HJ2 HB1 c5
          go_wp2_with (first
            | (refine wpList_load rfl _ _ _ rfl rfl HL0.out ?_)
            | (refine wpList_store rfl _ _ _ _ rfl rfl rfl HST.out ?_))
          exact bodyPost_ret (results_cell_one rfl _ _ ⟨w.heap.size + 1, 0, none⟩ _ rfl HF.out.1) rfl ⟨_, rfl, HF.out.2.1, HF.out.2.2⟩
    · have hU2 := hU1.below (below_new (.cells #[.string (strB spareB)] 9))
      have e2 := e0.keep (w' := W1.alloc (.cells #[.string (strB spareB)] 9)) (fun b _ h => (below_new (w := W1) (.cells #[.string (strB spareB)] 9)).block b h)
      have hh2 := heap_alloc_new W1 (.cells #[.string (strB spareB)] 9)
      have hn2 : w.heap.size + 2 ≤ (W1.alloc (.cells #[.string (strB spareB)] 9)).heap.size := by simp; omega
      have hl2 : W1.heap.size < (W1.alloc (.cells #[.string (strB spareB)] 9)).heap.size := by simp
      refine opRun 4 9 (v := .slice (some ⟨W1.heap.size, 0, none⟩) 1 1) rfl rfl (by kernel_rfl) (exec_buildSlice1 rfl rfl (hs _)) ⟨.inr hU2, ?_⟩
      simp only [Act.put, List.setIfInBounds_toArray, List.set_cons_zero, List.set_cons_succ]
      generalize W1.alloc (.cells #[.string (strB spareB)] 9) = W2 at *
      obtain ⟨v1, W3, a1, k3, lo1, hoth⟩ := keys_one (w := w) e2 (HK.out.below hU2.2.2) w1 hn2 23
      have hU3 := hU2.low lo1
      have hn3 : w.heap.size + 2 ≤ W3.heap.size := Nat.le_trans hn2 lo1.size
      have hh := (hoth W1.heap.size (by omega) hl2).trans hh2
      refine onlyRun 3 8 (v := v1) rfl rfl (by kernel_rfl) rfl (exec_append rfl rfl rfl a1) (.inr hU3) ?_
      simp only [Act.put, List.setIfInBounds_toArray, List.set_cons_zero, List.set_cons_succ]
      obtain ⟨g, c, V4, a4, k4, lo4, hc4⟩ := keys_two k3 hh w1 hn3 23
      have hU4 := hU3.low lo4
      refine onlyRun 5 10 (v := .slice (some ⟨g, 0, none⟩) (ks.length + 1) c) rfl rfl (by kernel_rfl) rfl (exec_append rfl rfl rfl a4) (.inr hU4) ?_
      simp only [Act.put, List.setIfInBounds_toArray, List.set_cons_zero, List.set_cons_succ]
      refine take 9 14 (v := .slice (some ⟨g, 0, none⟩) ks.length c) rfl rfl (by kernel_rfl) (by kernel_rfl) (by kernel_rfl) rfl (fun W hW => exec_slice rfl rfl rfl rfl rfl (slice_keys _ _ _ _ (by omega) W)) (by assumption) ?_
      simp only [Act.put, List.setIfInBounds_toArray, List.set_cons_zero, List.set_cons_succ]
      refine take 10 15 (v := .pointer (some ⟨w.heap.size, 4, none⟩)) rfl rfl (by kernel_rfl) (by kernel_rfl) (by kernel_rfl) rfl (fun W hW => exec_fieldAddr rfl rfl (fa_value _ _ (by decide) W)) (by assumption) ?_
      simp only [Act.put, List.setIfInBounds_toArray, List.set_cons_zero, List.set_cons_succ]
      refine onlySkip 11 rfl rfl (by kernel_rfl) rfl (exec_store rfl rfl rfl (put_keys (cellOf (o := 4) hU4.1 rfl) (CpW.free hU4 4))) (.inl (by kernel_rfl)) ?_
      refine done (by kernel_rfl) ?_ _
      have HW := Lib.hid (CpW.begin (u := .slice (some ⟨g, 0, none⟩) ks.length c) hU4 k4)
      generalize V4.setCell _ _ = V5 at *
      generalize V4.heap.size = n1 at *
      have c5 := cellOf (o := 5) HW.out.two.1 rfl
      clear a1 a4 hT hU0 hU1 hU2 hU3 hU4 k3 k4 lo1 lo4 hc4 hh e0 he hs hn0 hn1 hn2 hn3 g0
      (try clear hh1); (try clear hh2); (try clear hl2); (try clear hoth); (try clear k1); (try clear g1); (try clear e2)
      go_wp2
      have HW0 := HW
      go_loopw [3, 4] (fun o i wr => ∃ (j : Nat) (ov : Value), j ≤ l.length ∧ i = .int .i64 (j : Int) ∧ ov = o ∧ Hid (CpW w wr #[.int .i64 k, .bool b, .int .i64 n, .string (strB t), .slice (some ⟨g, 0, none⟩) ks.length c, .slice pl l.length cl] #[.int .i64 0, .bool false, .int .i64 0, .string ⟨#[]⟩, .slice none 0 0, .slice none 0 0] n1 g (ks.length + 1) c (ks.map strV ++ [strV spareB]) ov (l.take j))) (fun _ i _ => l.length - (intOf i).toNat)
      case atStart => exact ⟨0, _, Nat.zero_le _, rfl, rfl, HW0⟩
      case round =>
        clear HW HW0 c5
        obtain ⟨j, ov, hj, rfl, rfl, HJ⟩ := hrel
        have c5 := cellOf (o := 5) HJ.out.two.1 rfl
        by_cases hlt : j < l.length
        · have hlt1 : j + 1 ≤ l.length := hlt
          have htk : l.take (j + 1) = l.take j ++ [l[j]] := List.take_succ_eq_append_getElem hlt
          obtain ⟨g1, o1, pk1, ck1, pl1, cl1, rfl, ⟨a0, a1, a2, a3, a4, a5⟩, hv1⟩ := (HL.out.below HJ.out.two.2.2).at hlt
          have hcall := HI.out l[j] (List.getElem_mem hlt)
          have htv := HM.out l[j] (List.getElem_mem hlt)
          generalize l[j] = s1 at *
          have HD := Lib.hid (And.intro htk (And.intro hcall (And.intro hv1 (And.intro htv w2))))
          clear htk hcall hv1 htv
          go_wp2_with (first
            | (go_at_call 17
               (
                 refine (HD.out.2.1 _ _ HD.out.2.2.1).mono ?_
                 rintro e w5 ⟨x, rfl, hx, hb⟩
                 obtain ⟨v', W6, ha, hI, hlo⟩ := HJ.out.row.step HJ.out.size (Nat.le_refl _) hb hx (by rw [List.length_take]; have := HD.out.2.2.2.2; omega) 24
                 rw [← HD.out.1] at hI
                 have hN := HJ.out.turn hlo hI
                 obtain ⟨_, _, _, _, rfl, _⟩ := (hx.open HD.out.2.2.2.1).open
                 have Ha := Lib.hid ha
                 have HN := Lib.hid hN
                 clear ha hI hx hb hlo hN))
            | (refine wpList_append rfl rfl rfl rfl Ha.out ?_))
          go_roundw
          case rel => exact ⟨j + 1, _, hlt1, by go_num, rfl, HN⟩
          case measure => simp [intOf]; omega
        · obtain rfl : j = l.length := by omega
          have hJ := HJ.out.below (show Below wr.heap.size wr wr.drew from (Below.refl _ _).drew)
          rw [List.take_length] at hJ
          have hU0 := hJ.two
          have HJ2 := Lib.hid hJ
          have hb1 : ∀ W : World, (Instr.buildSlice 24 1 #[(0, .agg sentX)]).run Tryz.prog W = .ok (.slice (some ⟨W.heap.size, 0, none⟩) 1 1) (W.alloc (.cells sentX 26)) := fun W => run_buildSlice_one (P := Tryz.prog) (w := W) (v := .agg sentX) Tryz.underlying24 Tryz.sizeOf26 Tryz.zeroValue26 rfl (by omega) (by omega)
          have HB1 := Lib.hid hb1
          clear hJ hb1
          go_wp2
          refine plain_region_draws (fun W => TwoV w W #[.int .i64 k, .bool b, .int .i64 n, .string (strB t), .slice (some ⟨g, 0, none⟩) ks.length c, .slice pl l.length cl] #[.int .i64 0, .bool false, .int .i64 0, .string ⟨#[]⟩, .slice none 0 0, .slice none 0 0]) (by kernel_rfl) hU0 (fun hU => ?_)
          refine take 0 32 (v := ov) rfl rfl (by kernel_rfl) (by kernel_rfl) (by kernel_rfl) rfl (fun W hW => exec_move rfl rfl) (by assumption) ?_
          simp only [Act.put, List.setIfInBounds_toArray, List.set_cons_zero, List.set_cons_succ]
          refine take 1 33 (v := .agg sentX) rfl rfl (by kernel_rfl) (by kernel_rfl) (by kernel_rfl) rfl (fun W hW => exec_buildSent rfl) (by assumption) ?_
          simp only [Act.put, List.setIfInBounds_toArray, List.set_cons_zero, List.set_cons_succ]
          refine take 4 36 (v := .pointer (some ⟨w.heap.size, 5, none⟩)) rfl rfl (by kernel_rfl) (by kernel_rfl) (by kernel_rfl) rfl (fun W hW => exec_fieldAddr rfl rfl (fa_value _ _ (by decide) W)) (by assumption) ?_
          simp only [Act.put, List.setIfInBounds_toArray, List.set_cons_zero, List.set_cons_succ]
          refine take 5 37 (v := .slice pl l.length cl) rfl rfl (by kernel_rfl) (by kernel_rfl) (by kernel_rfl) rfl (fun W hW => exec_load rfl rfl (run_load1 (w := W) Tryz.underlying24 rfl (cellOf hW.1 rfl))) (by assumption) ?_
          simp only [Act.put, List.setIfInBounds_toArray, List.set_cons_zero, List.set_cons_succ]
          refine take 6 38 (v := .int .i64 (l.length : Int)) rfl rfl (by kernel_rfl) (by kernel_rfl) (by kernel_rfl) rfl (fun W hW => exec_lenV rfl rfl) (by assumption) ?_
          simp only [Act.put, List.setIfInBounds_toArray, List.set_cons_zero, List.set_cons_succ]
          obtain ⟨g2, c2, W6, ha, hc2, hT6, W8, hT7, hst, hld, hsp, hbw⟩ := (HJ2.out.below (below_new (.cells sentX 26))).finish (heap_alloc_new wr.drew _) w2 24
          refine onlyRun 2 34 (v := .slice (some ⟨wr.drew.heap.size, 0, none⟩) 1 1) rfl rfl (by kernel_rfl) rfl (exec_buildSlice1 rfl rfl (HB1.out _)) (.inr (hU.below (below_new _))) ?_
          simp only [Act.put, List.setIfInBounds_toArray, List.set_cons_zero, List.set_cons_succ]
          refine onlyRun 3 35 (v := .slice (some ⟨g2, 0, none⟩) (l.length + 1) c2) rfl rfl (by kernel_rfl) rfl (exec_append rfl rfl rfl ha) (.inr hT6) ?_
          simp only [Act.put, List.setIfInBounds_toArray, List.set_cons_zero, List.set_cons_succ]
          refine take 7 39 (v := .slice (some ⟨g2, 0, none⟩) l.length c2) rfl rfl (by kernel_rfl) (by kernel_rfl) (by kernel_rfl) rfl (fun W hW => exec_slice rfl rfl rfl rfl rfl (slice_vals _ _ _ _ (by omega) W)) (by assumption) ?_
          simp only [Act.put, List.setIfInBounds_toArray, List.set_cons_zero, List.set_cons_succ]
          refine take 8 40 (v := .pointer (some ⟨w.heap.size, 5, none⟩)) rfl rfl (by kernel_rfl) (by kernel_rfl) (by kernel_rfl) rfl (fun W hW => exec_fieldAddr rfl rfl (fa_value _ _ (by decide) W)) (by assumption) ?_
          simp only [Act.put, List.setIfInBounds_toArray, List.set_cons_zero, List.set_cons_succ]
          refine onlySkip 9 rfl rfl (by kernel_rfl) rfl (exec_store rfl rfl rfl (put_vals (cellOf (o := 5) hT6.1 rfl) (CpW.free hT6 5))) (.inl (by kernel_rfl)) ?_
          refine done (by kernel_rfl) ?_ _
          have HL0 := Lib.hid (get_val hT7.1)
          have HST := Lib.hid hst
          have HF := Lib.hid (And.intro hld (And.intro hsp hbw))
          generalize W6.setCell _ _ = W7 at *
          clear ha hc2 hT6 hT7 hst hld hsp hbw hU hU0 HJ2 HB1 c5
          go_wp2_with (first
            | (refine wpList_load rfl _ _ _ rfl rfl HL0.out ?_)
            | (refine wpList_store rfl _ _ _ _ rfl rfl rfl HST.out ?_))
          exact bodyPost_ret (results_cell_one rfl _ _ ⟨w.heap.size + 1, 0, none⟩ _ rfl HF.out.1) rfl ⟨_, rfl, HF.out.2.1, HF.out.2.2⟩
  · have hU1 := hT.below (below_new (.cells #[.string (strB spareB)] 9))
    have hh1 := heap_alloc_new W0 (.cells #[.string (strB spareB)] 9)
    have g0 : W0.heap.size < (W0.alloc (.cells #[.string (strB spareB)] 9)).heap.size := by simp
    refine opRun 4 9 (v := .slice (some ⟨W0.heap.size, 0, none⟩) 1 1) rfl rfl (by kernel_rfl) (exec_buildSlice1 rfl rfl (hs _)) ⟨.inr hU1, ?_⟩
    simp only [Act.put, List.setIfInBounds_toArray, List.set_cons_zero, List.set_cons_succ]
    generalize W0.alloc (.cells #[.string (strB spareB)] 9) = W1 at *
    have hn1 : w.heap.size + 2 ≤ W1.heap.size := by omega
    have hU2 := hU1.below (below_new (.cells #[] 9))
    have e0 := empty_row (W := W1) (w.heap.size + 2) hn1
    have hh2 := ((below_new (w := W1) (.cells #[] 9)).block W0.heap.size g0).trans hh1
    have g1 : W0.heap.size < (W1.alloc (.cells #[] 9)).heap.size := by simp; omega
    have hn2 : w.heap.size + 2 ≤ (W1.alloc (.cells #[] 9)).heap.size := by simp; omega
    refine onlyRun 0 5 (v := .slice (some ⟨W1.heap.size, 0, none⟩) 0 0) rfl rfl (by kernel_rfl) rfl (exec_buildSlice0 rfl (he _)) (.inr hU2) ?_
    simp only [Act.put, List.setIfInBounds_toArray, List.set_cons_zero, List.set_cons_succ]
    generalize W1.alloc (.cells #[] 9) = W2 at *
    obtain ⟨v1, W3, a1, k3, lo1, hoth⟩ := keys_one (w := w) e0 (HK.out.below hU2.2.2) w1 hn2 23
    have hU3 := hU2.low lo1
    have hn3 : w.heap.size + 2 ≤ W3.heap.size := Nat.le_trans hn2 lo1.size
    have hh := (hoth W0.heap.size (by omega) g1).trans hh2
    refine onlyRun 3 8 (v := v1) rfl rfl (by kernel_rfl) rfl (exec_append rfl rfl rfl a1) (.inr hU3) ?_
    simp only [Act.put, List.setIfInBounds_toArray, List.set_cons_zero, List.set_cons_succ]
    obtain ⟨g, c, V4, a4, k4, lo4, hc4⟩ := keys_two k3 hh w1 hn3 23
    have hU4 := hU3.low lo4
    refine onlyRun 5 10 (v := .slice (some ⟨g, 0, none⟩) (ks.length + 1) c) rfl rfl (by kernel_rfl) rfl (exec_append rfl rfl rfl a4) (.inr hU4) ?_
    simp only [Act.put, List.setIfInBounds_toArray, List.set_cons_zero, List.set_cons_succ]
    refine take 9 14 (v := .slice (some ⟨g, 0, none⟩) ks.length c) rfl rfl (by kernel_rfl) (by kernel_rfl) (by kernel_rfl) rfl (fun W hW => exec_slice rfl rfl rfl rfl rfl (slice_keys _ _ _ _ (by omega) W)) (by assumption) ?_
    simp only [Act.put, List.setIfInBounds_toArray, List.set_cons_zero, List.set_cons_succ]
    refine take 10 15 (v := .pointer (some ⟨w.heap.size, 4, none⟩)) rfl rfl (by kernel_rfl) (by kernel_rfl) (by kernel_rfl) rfl (fun W hW => exec_fieldAddr rfl rfl (fa_value _ _ (by decide) W)) (by assumption) ?_
    simp only [Act.put, List.setIfInBounds_toArray, List.set_cons_zero, List.set_cons_succ]
    refine onlySkip 11 rfl rfl (by kernel_rfl) rfl (exec_store rfl rfl rfl (put_keys (cellOf (o := 4) hU4.1 rfl) (CpW.free hU4 4))) (.inl (by kernel_rfl)) ?_
    refine done (by kernel_rfl) ?_ _
    have HW := Lib.hid (CpW.begin (u := .slice (some ⟨g, 0, none⟩) ks.length c) hU4 k4)
    generalize V4.setCell _ _ = V5 at *
    generalize V4.heap.size = n1 at *
    have c5 := cellOf (o := 5) HW.out.two.1 rfl
    clear a1 a4 hT hU0 hU1 hU2 hU3 hU4 k3 k4 lo1 lo4 hc4 hh e0 he hs hn0 hn1 hn2 hn3 g0
    (try clear hh1); (try clear hh2); (try clear hl2); (try clear hoth); (try clear k1); (try clear g1); (try clear e2)
    go_wp2
    have HW0 := HW
    go_loopw [3, 4] (fun o i wr => ∃ (j : Nat) (ov : Value), j ≤ l.length ∧ i = .int .i64 (j : Int) ∧ ov = o ∧ Hid (CpW w wr #[.int .i64 k, .bool b, .int .i64 n, .string (strB t), .slice (some ⟨g, 0, none⟩) ks.length c, .slice pl l.length cl] #[.int .i64 0, .bool false, .int .i64 0, .string ⟨#[]⟩, .slice none 0 0, .slice none 0 0] n1 g (ks.length + 1) c (ks.map strV ++ [strV spareB]) ov (l.take j))) (fun _ i _ => l.length - (intOf i).toNat)
    case atStart => exact ⟨0, _, Nat.zero_le _, rfl, rfl, HW0⟩
    case round =>
      clear HW HW0 c5
      obtain ⟨j, ov, hj, rfl, rfl, HJ⟩ := hrel
      have c5 := cellOf (o := 5) HJ.out.two.1 rfl
      by_cases hlt : j < l.length
      · have hlt1 : j + 1 ≤ l.length := hlt
        have htk : l.take (j + 1) = l.take j ++ [l[j]] := List.take_succ_eq_append_getElem hlt
        obtain ⟨g1, o1, pk1, ck1, pl1, cl1, rfl, ⟨a0, a1, a2, a3, a4, a5⟩, hv1⟩ := (HL.out.below HJ.out.two.2.2).at hlt
        have hcall := HI.out l[j] (List.getElem_mem hlt)
        have htv := HM.out l[j] (List.getElem_mem hlt)
        generalize l[j] = s1 at *
        have HD := Lib.hid (And.intro htk (And.intro hcall (And.intro hv1 (And.intro htv w2))))
        clear htk hcall hv1 htv
        go_wp2_with (first
          | (go_at_call 17
             (
               refine (HD.out.2.1 _ _ HD.out.2.2.1).mono ?_
               rintro e w5 ⟨x, rfl, hx, hb⟩
               obtain ⟨v', W6, ha, hI, hlo⟩ := HJ.out.row.step HJ.out.size (Nat.le_refl _) hb hx (by rw [List.length_take]; have := HD.out.2.2.2.2; omega) 24
               rw [← HD.out.1] at hI
               have hN := HJ.out.turn hlo hI
               obtain ⟨_, _, _, _, rfl, _⟩ := (hx.open HD.out.2.2.2.1).open
               have Ha := Lib.hid ha
               have HN := Lib.hid hN
               clear ha hI hx hb hlo hN))
          | (refine wpList_append rfl rfl rfl rfl Ha.out ?_))
        go_roundw
        case rel => exact ⟨j + 1, _, hlt1, by go_num, rfl, HN⟩
        case measure => simp [intOf]; omega
      · obtain rfl : j = l.length := by omega
        have hJ := HJ.out.below (show Below wr.heap.size wr wr.drew from (Below.refl _ _).drew)
        rw [List.take_length] at hJ
        have hU0 := hJ.two
        have HJ2 := Lib.hid hJ
        have hb1 : ∀ W : World, (Instr.buildSlice 24 1 #[(0, .agg sentX)]).run Tryz.prog W = .ok (.slice (some ⟨W.heap.size, 0, none⟩) 1 1) (W.alloc (.cells sentX 26)) := fun W => run_buildSlice_one (P := Tryz.prog) (w := W) (v := .agg sentX) Tryz.underlying24 Tryz.sizeOf26 Tryz.zeroValue26 rfl (by omega) (by omega)
        have HB1 := Lib.hid hb1
        clear hJ hb1
        go_wp2
        refine plain_region_draws (fun W => TwoV w W #[.int .i64 k, .bool b, .int .i64 n, .string (strB t), .slice (some ⟨g, 0, none⟩) ks.length c, .slice pl l.length cl] #[.int .i64 0, .bool false, .int .i64 0, .string ⟨#[]⟩, .slice none 0 0, .slice none 0 0]) (by kernel_rfl) hU0 (fun hU => ?_)
        refine take 0 32 (v := ov) rfl rfl (by kernel_rfl) (by kernel_rfl) (by kernel_rfl) rfl (fun W hW => exec_move rfl rfl) (by assumption) ?_
        simp only [Act.put, List.setIfInBounds_toArray, List.set_cons_zero, List.set_cons_succ]
        refine take 1 33 (v := .agg sentX) rfl rfl (by kernel_rfl) (by kernel_rfl) (by kernel_rfl) rfl (fun W hW => exec_buildSent rfl) (by assumption) ?_
        simp only [Act.put, List.setIfInBounds_toArray, List.set_cons_zero, List.set_cons_succ]
        refine take 4 36 (v := .pointer (some ⟨w.heap.size, 5, none⟩)) rfl rfl (by kernel_rfl) (by kernel_rfl) (by kernel_rfl) rfl (fun W hW => exec_fieldAddr rfl rfl (fa_value _ _ (by decide) W)) (by assumption) ?_
        simp only [Act.put, List.setIfInBounds_toArray, List.set_cons_zero, List.set_cons_succ]
        refine take 5 37 (v := .slice pl l.length cl) rfl rfl (by kernel_rfl) (by kernel_rfl) (by kernel_rfl) rfl (fun W hW => exec_load rfl rfl (run_load1 (w := W) Tryz.underlying24 rfl (cellOf hW.1 rfl))) (by assumption) ?_
        simp only [Act.put, List.setIfInBounds_toArray, List.set_cons_zero, List.set_cons_succ]
        refine take 6 38 (v := .int .i64 (l.length : Int)) rfl rfl (by kernel_rfl) (by kernel_rfl) (by kernel_rfl) rfl (fun W hW => exec_lenV rfl rfl) (by assumption) ?_
        simp only [Act.put, List.setIfInBounds_toArray, List.set_cons_zero, List.set_cons_succ]
        obtain ⟨g2, c2, W6, ha, hc2, hT6, W8, hT7, hst, hld, hsp, hbw⟩ := (HJ2.out.below (below_new (.cells sentX 26))).finish (heap_alloc_new wr.drew _) w2 24
        refine onlyRun 2 34 (v := .slice (some ⟨wr.drew.heap.size, 0, none⟩) 1 1) rfl rfl (by kernel_rfl) rfl (exec_buildSlice1 rfl rfl (HB1.out _)) (.inr (hU.below (below_new _))) ?_
        simp only [Act.put, List.setIfInBounds_toArray, List.set_cons_zero, List.set_cons_succ]
        refine onlyRun 3 35 (v := .slice (some ⟨g2, 0, none⟩) (l.length + 1) c2) rfl rfl (by kernel_rfl) rfl (exec_append rfl rfl rfl ha) (.inr hT6) ?_
        simp only [Act.put, List.setIfInBounds_toArray, List.set_cons_zero, List.set_cons_succ]
        refine take 7 39 (v := .slice (some ⟨g2, 0, none⟩) l.length c2) rfl rfl (by kernel_rfl) (by kernel_rfl) (by kernel_rfl) rfl (fun W hW => exec_slice rfl rfl rfl rfl rfl (slice_vals _ _ _ _ (by omega) W)) (by assumption) ?_
        simp only [Act.put, List.setIfInBounds_toArray, List.set_cons_zero, List.set_cons_succ]
        refine take 8 40 (v := .pointer (some ⟨w.heap.size, 5, none⟩)) rfl rfl (by kernel_rfl) (by kernel_rfl) (by kernel_rfl) rfl (fun W hW => exec_fieldAddr rfl rfl (fa_value _ _ (by decide) W)) (by assumption) ?_
        simp only [Act.put, List.setIfInBounds_toArray, List.set_cons_zero, List.set_cons_succ]
        refine onlySkip 9 rfl rfl (by kernel_rfl) rfl (exec_store rfl rfl rfl (put_vals (cellOf (o := 5) hT6.1 rfl) (CpW.free hT6 5))) (.inl (by kernel_rfl)) ?_
        refine done (by kernel_rfl) ?_ _
        have HL0 := Lib.hid (get_val hT7.1)
        have HST := Lib.hid hst
        have HF := Lib.hid (And.intro hld (And.intro hsp hbw))
        generalize W6.setCell _ _ = W7 at *
        clear ha hc2 hT6 hT7 hst hld hsp hbw hU hU0 HJ2 HB1 c5
        go_wp2_with (first
          | (refine wpList_load rfl _ _ _ rfl rfl HL0.out ?_)
          | (refine wpList_store rfl _ _ _ _ rfl rfl rfl HST.out ?_))
        exact bodyPost_ret (results_cell_one rfl _ _ ⟨w.heap.size + 1, 0, none⟩ _ rfl HF.out.1) rfl ⟨_, rfl, HF.out.2.1, HF.out.2.2⟩
end Go.Proofs.YtnkaegdnjfpliaaGreatDoor

/-! Keys in order: the sort that value.Map calls. Printed by gen_sk.py. -/
namespace Go.Proofs.YtnkaegdnjfpliaaGreatDoor
set_option linter.unusedSimpArgs false
set_option linter.unusedVariables false
open Go.RowKit Go.Sort

/-- What lies about Map's closure. -/
structure KeysAt (kb bk ok n c i j : Nat) (s1 s2 : List UInt8) (W : World) : Prop where
  box : W.heap[kb]? = some (.cells #[.slice (some ⟨bk, ok, none⟩) n c] 23 (0, 0))
  one : W.cell? ⟨bk, ok + i, none⟩ = some (.string (strB s1))
  two : W.cell? ⟨bk, ok + j, none⟩ = some (.string (strB s2))
set_option maxRecDepth 100000 in
set_option maxHeartbeats 2000000 in
theorem order_any {w : World} {kb : Nat} {p : Option Addr} {c : Nat} {ks : List (List UInt8)} (hr : RdS w p c ks) (hb : w.heap[kb]? = some (.cells #[.slice p ks.length c] 23 (0, 0))) (i j : Nat) (hi : i < ks.length) (hj : j < ks.length) :
    Calls Tryz.prog 81 #[.int .i64 (i : Int), .int .i64 (j : Int), .pointer (some ⟨kb, 0, none⟩)] w fun e w' => e = .returned (.int .i64 (cmpB ks[i] ks[j])) ∧ w' = w.drew := by
  obtain ⟨bk, ok, rfl, q1, _⟩ := hr.get hi
  obtain ⟨bk2, ok2, hp, q2, _⟩ := hr.get hj
  cases hp
  have hU : KeysAt kb bk ok ks.length c i j ks[i] ks[j] w.drew := ⟨hb, q1, q2⟩
  generalize ks[i] = s1 at *
  generalize ks[j] = s2 at *
  clear hr hb q1 q2
  go_enter Tryz.func81, Tryz.ntmps81
  go_wp2
  refine plain_region_draws (fun W => KeysAt kb bk ok ks.length c i j s1 s2 W) (by kernel_rfl) hU (fun hU0 => ?_)
  refine take 0 6 (v := .slice (some ⟨bk, ok, none⟩) ks.length c) rfl rfl (by kernel_rfl) (by kernel_rfl) (by kernel_rfl) rfl (fun W hW => exec_load rfl rfl (run_load1 (w := W) Tryz.underlying23 rfl (cellOf hW.box rfl))) (by assumption) ?_
  simp only [Act.put, List.setIfInBounds_toArray, List.set_cons_zero, List.set_cons_succ]
  refine take 1 7 (v := .int .i64 (i : Int)) rfl rfl (by kernel_rfl) (by kernel_rfl) (by kernel_rfl) rfl (fun W hW => exec_move rfl rfl) (by assumption) ?_
  simp only [Act.put, List.setIfInBounds_toArray, List.set_cons_zero, List.set_cons_succ]
  refine take 2 8 (v := .pointer (some ⟨bk, ok + i, none⟩)) rfl rfl (by kernel_rfl) (by kernel_rfl) (by kernel_rfl) rfl (fun W hW => exec_indexAddr rfl rfl rfl (ia_keys _ _ _ _ _ hi W)) (by assumption) ?_
  simp only [Act.put, List.setIfInBounds_toArray, List.set_cons_zero, List.set_cons_succ]
  refine take 3 9 (v := .string (strB s1)) rfl rfl (by kernel_rfl) (by kernel_rfl) (by kernel_rfl) rfl (fun W hW => exec_load rfl rfl (run_load1 (w := W) Tryz.underlying9 rfl hW.one)) (by assumption) ?_
  simp only [Act.put, List.setIfInBounds_toArray, List.set_cons_zero, List.set_cons_succ]
  refine take 4 10 (v := .slice (some ⟨bk, ok, none⟩) ks.length c) rfl rfl (by kernel_rfl) (by kernel_rfl) (by kernel_rfl) rfl (fun W hW => exec_load rfl rfl (run_load1 (w := W) Tryz.underlying23 rfl (cellOf hW.box rfl))) (by assumption) ?_
  simp only [Act.put, List.setIfInBounds_toArray, List.set_cons_zero, List.set_cons_succ]
  refine take 5 11 (v := .int .i64 (j : Int)) rfl rfl (by kernel_rfl) (by kernel_rfl) (by kernel_rfl) rfl (fun W hW => exec_move rfl rfl) (by assumption) ?_
  simp only [Act.put, List.setIfInBounds_toArray, List.set_cons_zero, List.set_cons_succ]
  refine take 6 12 (v := .pointer (some ⟨bk, ok + j, none⟩)) rfl rfl (by kernel_rfl) (by kernel_rfl) (by kernel_rfl) rfl (fun W hW => exec_indexAddr rfl rfl rfl (ia_keys _ _ _ _ _ hj W)) (by assumption) ?_
  simp only [Act.put, List.setIfInBounds_toArray, List.set_cons_zero, List.set_cons_succ]
  refine take 7 13 (v := .string (strB s2)) rfl rfl (by kernel_rfl) (by kernel_rfl) (by kernel_rfl) rfl (fun W hW => exec_load rfl rfl (run_load1 (w := W) Tryz.underlying9 rfl hW.two)) (by assumption) ?_
  simp only [Act.put, List.setIfInBounds_toArray, List.set_cons_zero, List.set_cons_succ]
  refine onlyCall 8 14 rfl rfl (by kernel_rfl) rfl (exec_call [.string (strB s1), .string (strB s2)] rfl rfl Tryz.func82 (by kernel_rfl) (by kernel_rfl)) ?_
  refine (strcmp_any s1 s2 _).mono ?_
  rintro e w5 ⟨rfl, rfl⟩
  refine ⟨_, rfl, .inr (by assumption), ?_⟩
  simp only [Act.put, List.setIfInBounds_toArray, List.set_cons_zero, List.set_cons_succ]
  refine take 9 5 (v := .int .i64 (cmpB s1 s2)) rfl rfl (by kernel_rfl) (by kernel_rfl) (by kernel_rfl) rfl (fun W hW => exec_assign rfl rfl) (by assumption) ?_
  simp only [Act.put, List.setIfInBounds_toArray, List.set_cons_zero, List.set_cons_succ]
  refine done (by kernel_rfl) ?_ _
  go_wp2
  go_ret
  exact ⟨rfl, rfl⟩
/-! ### The sort's words -/
section
variable {α : Type} [Inhabited α] (enc : α → Value) (W : World) (g m : Nat) (d : Array α) (os : Array Obj)
theorem sortWorld_other {b : Nat} (hb : b < W.heap.size) (hg : b ≠ g) : (sortWorld enc W g 0 m d os).heap[b]? = W.heap[b]? := by
  unfold sortWorld
  rw [heap_grow_old _ _ (by simpa using hb)]
  unfold putRow mapBlock
  show (W.heap.modify g _)[b]? = _
  rw [Array.getElem?_modify, if_neg (fun e => hg e.symm)]
theorem sortWorld_row {cs : Array Value} {t : TypeId} {fr : Nat × Nat} (h : W.heap[g]? = some (.cells cs t fr)) : (sortWorld enc W g 0 m d os).heap[g]? = some (.cells (putCells enc 0 d cs) t fr) := by
  have hb := (Array.getElem?_eq_some_iff.1 h).1
  unfold sortWorld
  rw [heap_grow_old _ _ (by simpa using hb)]
  unfold putRow mapBlock
  show (W.heap.modify g _)[g]? = _
  rw [Array.getElem?_modify, if_pos rfl, h]
  rfl
theorem sortWorld_size : W.heap.size ≤ (sortWorld enc W g 0 m d os).heap.size := by
  unfold sortWorld
  simp
theorem sortWorld_touch : Touch (fun b => b = g) W (sortWorld enc W g 0 m d os) := ⟨rfl, rfl, rfl, sortWorld_size enc W g m d os, fun b hb hg => sortWorld_other enc W g m d os hb hg⟩
theorem putCells_get {cs : Array Value} (hs : cs.size = d.size) {i : Nat} (hi : i < d.size) : (putCells enc 0 d cs)[i]? = some (enc d[i]!) := by
  unfold putCells
  rw [Array.getElem?_mapIdx, Array.getElem?_eq_getElem (by omega), Option.map_some, if_pos ⟨Nat.zero_le _, by omega⟩]
  rfl
end
theorem cmpB_lt_swo {α : Type} (f : α → List UInt8) : SWO (Go.Proofs.ltOf fun x y => cmpB (f x) (f y)) := by
  have hO := fun x => ord_cmpB (f x)
  refine ⟨fun x => ?_, fun x y z h1 h2 => ?_, fun x y z h1 h2 => ?_⟩
  · simp only [Go.Proofs.ltOf, (hO x).self]; rfl
  · simp only [Go.Proofs.ltOf, decide_eq_true_iff] at *
    have e1 : cmpB (f x) (f y) = -1 := by have := (hO x).range (f y); omega
    have := (hO x).chain (f y) (f z) e1 (by omega)
    omega
  · simp only [Go.Proofs.ltOf, decide_eq_false_iff_not] at *
    intro h3
    have e1 : cmpB (f x) (f z) = -1 := by have := (hO x).range (f z); omega
    have e2 : cmpB (f z) (f y) ≤ 0 := by have := (hO y).anti (f z); omega
    have := (hO x).chain (f z) (f y) e1 e2
    omega
theorem extract_all {β : Type} (d : Array β) (n : Nat) (h : d.size ≤ n) : d.extract 0 n = d := by
  apply Array.ext_getElem?
  intro i
  rw [Array.getElem?_extract]
  by_cases hi : i < d.size
  · rw [if_pos (by omega), Nat.zero_add]
  · rw [if_neg (by omega), Array.getElem?_eq_none (by omega)]
/-- Keys in order, told by their places. -/
def InOrder (ks : List (List UInt8)) (p : List Nat) : Prop := ∀ i j (hi : i < p.length) (hj : j < p.length), i < j → cmpB (ks.getD p[i] []) (ks.getD p[j] []) ≤ 0
theorem sort_keys {w W : World} {kb g cap : Nat} {p : Option Addr} {c : Nat} {ks : List (List UInt8)} {cs : Array Value} (hr : RdS w p c ks) (hn : ks.length ≤ 1000000) (hbel : Below w.heap.size w W) (hkb : w.heap.size ≤ kb) (hg : kb < g)
    (hb : W.heap[kb]? = some (.cells #[.slice p ks.length c] 23 (0, 0))) (hrow : W.heap[g]? = some (.cells cs 3 (0, 0))) (hcs : cs.size = ks.length) (hval : ∀ i, i < ks.length → cs[i]? = some (.int .i64 (i : Int))) :
    Calls Tryz.prog 80 #[.slice (some ⟨g, 0, none⟩) ks.length cap, .func (.func 81) #[] #[.pointer (some ⟨kb, 0, none⟩)]] W fun e w' => e = .returned (.tuple #[]) ∧
      Touch (fun b => b = g) W w' ∧ ∃ q cs', w'.heap[g]? = some (.cells cs' 3 (0, 0)) ∧ q.Perm (List.range ks.length) ∧ InOrder ks q ∧ ∀ i (hi : i < q.length), cs'[i]? = some (.int .i64 (q[i] : Int)) := by
  by_cases h0 : ks.length = 0
  · rw [h0]
    refine (AnyF.slices_SortFunc_none { Tryz.sortInts with } _ _ _ _).mono ?_
    rintro e w' ⟨rfl, rfl⟩
    refine ⟨rfl, ⟨rfl, rfl, rfl, Nat.le_refl _, fun _ _ _ => rfl⟩, [], cs, hrow, by simp, fun i j hi => by simp at hi, fun i hi => by simp at hi⟩
  · have hpos : 0 < ks.length := by omega
    haveI : Inhabited (Fin ks.length) := ⟨⟨0, hpos⟩⟩
    have hd : ∀ j (hj : j < ks.length), (Array.ofFn (fun i : Fin ks.length => i))[j]! = (⟨j, hj⟩ : Fin ks.length) := by
      intro j hj
      rw [getElem!_pos _ j (by simpa using hj)]
      simp
    have hds : (Array.ofFn (fun i : Fin ks.length => i)).size = ks.length := by simp
    have hglt := (Array.getElem?_eq_some_iff.1 hrow).1
    have hblt := (Array.getElem?_eq_some_iff.1 hb).1
    have hS := Any.slices_SortFunc Tryz.sortInts (fun i : Fin ks.length => .int .i64 (i.val : Int)) (fun _ => rfl) (fun x y => cmpB ks[x] ks[y]) (cmpB_lt_swo fun x : Fin ks.length => ks[x]) 81 #[.pointer (some ⟨kb, 0, none⟩)] g 0 cap (Array.ofFn (fun i : Fin ks.length => i)) W
      (enters_of Tryz.func81 (by kernel_rfl) rfl)
      (fun m os dk hs x y => by
        have hbX := sortWorld_other (fun i : Fin ks.length => Value.int .i64 (i.val : Int)) W g m dk os hblt (by omega)
        have hbelX : Below w.heap.size w (sortWorld (fun i : Fin ks.length => Value.int .i64 (i.val : Int)) W g 0 m dk os) :=
          hbel.trans ⟨rfl, rfl, rfl, sortWorld_size _ W g m dk os, fun k hk => sortWorld_other _ W g m dk os (by omega) (by omega)⟩
        refine (order_any (hr.below hbelX) (hbX.trans hb) x.val y.val x.isLt y.isLt).mono ?_
        rintro e w' ⟨rfl, rfl⟩
        exact ⟨rfl, 1, #[], by rw [grow_empty]; rfl⟩)
      (fun j hj => by
        rw [hds] at hj
        rw [hd j hj, Nat.zero_add]
        exact ⟨cellOf hrow (hval j hj), freeOf hrow⟩) hglt (by rw [hds]; omega)
    rw [hds] at hS
    refine hS.mono ?_
    rintro e w' ⟨rfl, d', m, os, hperm, hsort, rfl⟩
    have hd's : d'.size = ks.length := by rw [hperm.1, hds]
    have hl : (d'.toList.map Fin.val).length = ks.length := by simp [hd's]
    have hgetF : ∀ i (hi : i < ks.length), d'[i]! = d'[i]'(by omega) := fun i hi => getElem!_pos _ i (by omega)
    have hget : ∀ i (hi : i < (d'.toList.map Fin.val).length), (d'.toList.map Fin.val)[i] = (d'[i]!).val := by
      intro i hi
      rw [hl] at hi
      rw [hgetF i hi]
      simp
    refine ⟨rfl, sortWorld_touch _ W g m d' os, d'.toList.map Fin.val, _, sortWorld_row _ W g m d' os hrow, ?_, ?_, ?_⟩
    · have h1 := hperm.2.2
      rw [extract_all d' _ (by rw [hd's]; exact Nat.le_refl _), extract_all (Array.ofFn fun i : Fin ks.length => i) _ (by rw [hds]; exact Nat.le_refl _)] at h1
      have h2 := h1.map Fin.val
      refine h2.trans ?_
      rw [Array.toList_ofFn]
      have : List.map Fin.val (List.ofFn fun i : Fin ks.length => i) = List.range ks.length := by
        apply List.ext_getElem?
        intro i
        simp [List.getElem?_ofFn, List.getElem?_range]
        by_cases h : i < ks.length <;> simp [h]
      rw [this]
    · intro i j hi hj hij
      rw [hget i hi, hget j hj]
      rw [hl] at hi hj
      have h := hsort i j (Nat.zero_le _) hij hj
      simp only [Go.Proofs.ltOf, decide_eq_false_iff_not] at h
      have e : ∀ x : Fin ks.length, ks.getD x.val [] = ks[x] := fun x => by simp [List.getD]
      rw [e, e]
      have := (ord_cmpB ks[d'[j]!]).anti ks[d'[i]!]
      omega
    · intro i hi
      rw [hget i hi]
      rw [hl] at hi
      exact putCells_get _ d' (by rw [hcs, hd's]) (by omega)
end Go.Proofs.YtnkaegdnjfpliaaGreatDoor

/-! value.Map. Printed by gen_map.py. -/
namespace Go.Proofs.YtnkaegdnjfpliaaGreatDoor
set_option linter.unusedSimpArgs false
set_option linter.unusedVariables false
open Go.RowKit

/-! ### What is made -/
theorem own_ne {w : World} {P P' : Nat → Prop} {vk vl : Value} {n m : Nat} {xs ys : List Value} (hk : OwnsP w P 9 1 vk n xs) (hl : OwnsP w P' 26 6 vl m ys) {b : Nat} (h1 : vk.ownBlock = some b) (h2 : vl.ownBlock = some b) : False := by
  rcases hk.1.2 with ⟨rfl, _⟩ | ⟨g, cap, cur, rfl, _, hh, _⟩
  · simp [Value.ownBlock] at h1
  · rcases hl.1.2 with ⟨rfl, _⟩ | ⟨g', cap', cur', rfl, _, hh', _⟩
    · simp [Value.ownBlock] at h2
    · obtain rfl : g = b := by simpa [Value.ownBlock] using h1
      obtain rfl : g' = g := by simpa [Value.ownBlock] using h2
      rw [hh] at hh'
      simp only [Option.some.injEq, Obj.cells.injEq] at hh'
      exact absurd hh'.2.1 (by decide)
/-- Keys and values of a map that is being made, behind its box. -/
structure MInv (vb : Nat) (W : World) (vk vl : Value) (K : List (List UInt8)) (L : List V) : Prop where
  keys : OwnsP W (fun b => vb < b) 9 1 vk K.length (K.map strV)
  vals : ∃ xs, OwnsP W (fun b => vb < b) 26 6 vl L.length (xs.flatMap Array.toList) ∧ VOwns W (fun b => vb < b ∧ vl.ownBlock ≠ some b ∧ vk.ownBlock ≠ some b) L xs
theorem MInv.start (vb : Nat) (W : World) : MInv vb W (.slice none 0 0) (.slice none 0 0) [] [] :=
  ⟨⟨⟨rfl, .inl ⟨rfl, rfl⟩⟩, fun g hg => by simp [Value.ownBlock] at hg⟩, [], ⟨⟨rfl, .inl ⟨rfl, rfl⟩⟩, fun g hg => by simp [Value.ownBlock] at hg⟩, rfl⟩
theorem MInv.keep {vb : Nat} {W W' : World} {vk vl : Value} {K : List (List UInt8)} {L : List V} (h : MInv vb W vk vl K L) (hk : ∀ b, vb < b → b < W.heap.size → W'.heap[b]? = W.heap[b]?) : MInv vb W' vk vl K L := by
  obtain ⟨h1, xs, h2, h3⟩ := h
  exact ⟨h1.keep hk, xs, h2.keep hk, h3.keep fun b hp hb => hk b hp.1 hb⟩
theorem MInv.below {vb : Nat} {W W' : World} {vk vl : Value} {K : List (List UInt8)} {L : List V} (h : MInv vb W vk vl K L) (g : Below W.heap.size W W') : MInv vb W' vk vl K L := h.keep fun b _ hb => g.block b hb
theorem MInv.key {vb : Nat} {W : World} {vk vl : Value} {K : List (List UInt8)} {L : List V} (h : MInv vb W vk vl K L) {g : Nat} {s : List UInt8} (hg : W.heap[g]? = some (.cells #[.string (strB s)] 9 (0, 0))) (hn : K.length ≤ 1000000) (hvb : vb < W.heap.size) (ty : TypeId) :
    ∃ v' W2, (Builtin.append_ #[23, 23] ty #[vk, .slice (some ⟨g, 0, none⟩) 1 1]).run Tryz.prog W = .ok v' W2 ∧ MInv vb W2 v' vl (K ++ [s]) L ∧ Below (vb + 1) W W2 := by
  obtain ⟨h1, xs, h2, h3⟩ := h
  obtain ⟨v', W2, a1, a2, a3, a4, a5⟩ := append_str h1.1 hg hn ty
  have hlt : ∀ b, vk.ownBlock = some b → b < W.heap.size := fun b hb => (h1.1.lt b hb).2
  refine ⟨v', W2, a1, ⟨⟨?_, fun b hb => ?_⟩, xs, ⟨ownsRow_heap h2.1 fun b hb => a3.block b (h2.1.lt b hb).2 (fun e => own_ne h1 h2 e hb), h2.2⟩, ?_⟩, a3.below (Below.refl (vb + 1) W) (fun b hb e => by have := h1.2 b e; omega) (by omega)⟩
  · rw [List.map_append, List.length_append]; exact a2
  · rcases a4 with e | e
    · exact h1.2 b (e.symm.trans hb)
    · rw [e] at hb; cases hb; exact hvb
  · refine ((h3.imp (P' := fun b => (vb < b ∧ vl.ownBlock ≠ some b ∧ vk.ownBlock ≠ some b) ∧ b < W.heap.size) fun b hb hp => ⟨hp, hb⟩).keep fun b hp hb => a3.block b hb hp.1.2.2).imp fun b _ hp => ⟨hp.1.1, hp.1.2.1, ?_⟩
    rcases a4 with e | e
    · rw [e]; exact hp.1.2.2
    · rw [e]; intro e2; cases e2; have := hp.2; omega
theorem MInv.val {vb : Nat} {W : World} {vk vl : Value} {K : List (List UInt8)} {L : List V} (h : MInv vb W vk vl K L) {g : Nat} {x : Array Value} {v : V} (hx : VOwn W (fun b => vb < b ∧ vl.ownBlock ≠ some b ∧ vk.ownBlock ≠ some b) v x) (hg : W.heap[g]? = some (.cells x 26 (0, 0))) (hn : L.length ≤ 1000000) (hvb : vb < W.heap.size) (ty : TypeId) :
    ∃ v' W2, (Builtin.append_ #[24, 24] ty #[vl, .slice (some ⟨g, 0, none⟩) 1 1]).run Tryz.prog W = .ok v' W2 ∧ MInv vb W2 vk v' K (L ++ [v]) ∧ Below (vb + 1) W W2 := by
  obtain ⟨h1, xs, h2, h3⟩ := h
  obtain ⟨v', W2, a1, a2, a3, a4, a5⟩ := append_val h2.1 hx.size6 hx.ones hg hn ty
  refine ⟨v', W2, a1, ⟨⟨ownsRow_heap h1.1 fun b hb => a3.block b (h1.1.lt b hb).2 (fun e => own_ne h1 h2 hb e), h1.2⟩, xs ++ [x], ⟨?_, fun b hb => ?_⟩, ?_⟩, a3.below (Below.refl (vb + 1) W) (fun b hb e => by have := h2.2 b e; omega) (by omega)⟩
  · rw [List.flatMap_append, List.length_append]; simpa using a2
  · rcases a4 with e | e
    · exact h2.2 b (e.symm.trans hb)
    · rw [e] at hb; cases hb; exact hvb
  · refine (((VOwns_snoc h3 hx).imp (P' := fun b => (vb < b ∧ vl.ownBlock ≠ some b ∧ vk.ownBlock ≠ some b) ∧ b < W.heap.size) fun b hb hp => ⟨hp, hb⟩).keep fun b hp hb => a3.block b hb hp.1.2.1).imp fun b _ hp => ⟨hp.1.1, ?_, hp.1.2.2⟩
    rcases a4 with e | e
    · rw [e]; exact hp.1.2.1
    · rw [e]; intro e2; cases e2; have := hp.2; omega
/-! ### Small words -/
theorem results_cell_tmp {P : Program} {fn : Func} {p u : Tmp} {ty : TypeId} (h : fn.results = #[.cell p ty, .tmp u]) (tmps : Array Value) (w : World) (ad : Addr) (v x : Value)
    (hp : tmps.getD p undef = .pointer (some ad)) (hu : tmps.getD u undef = x) (hl : (loadVar ty ad).run P w = .ok v w) : (results fn tmps).run P w = .ok (.tuple #[v, x]) w := by
  have hp' : tmps[p]?.getD undef = .pointer (some ad) := by simpa using hp
  have hu' : tmps[u]?.getD undef = x := by simpa using hu
  simp [results, h, hp', hu', asAddr, hl]
theorem rises_snoc {a b : List UInt8} (h : ltB a b = true) : ∀ l : List (List UInt8), risesB (l ++ [a]) = true → risesB (l ++ [a] ++ [b]) = true
  | [], _ => by simp [risesB, h]
  | [x], hl => by simp only [List.cons_append, List.nil_append, risesB, Bool.and_eq_true] at hl ⊢; exact ⟨hl.1, h, trivial⟩
  | x :: y :: r, hl => by
    simp only [List.cons_append, risesB, Bool.and_eq_true] at hl ⊢
    exact ⟨hl.1, by simpa using rises_snoc h (y :: r) hl.2⟩
theorem info_int : ∃ i, Tryz.prog.info? 3 = some i ∧ i.zero = some (.int .i64 0) ∧ i.size = 1 ∧ i.bytes = 8 := info_parts (by kernel_rfl)
theorem make_ints (n : Nat) (hn : n ≤ 1000000) (w : World) :
    ∃ w' cs, (Instr.makeSlice 89 (.int .i64 (n : Int)) (.int .i64 (n : Int))).run Tryz.prog w = .ok (.slice (some ⟨w.heap.size, 0, none⟩) n n) w' ∧ w'.heap[w.heap.size]? = some (.cells cs 3 (0, 0)) ∧ cs.size = n ∧ Below w.heap.size w w' := by
  obtain ⟨i0, h1, h2, h3, h4⟩ := info_int
  obtain ⟨w', hr, hown, hg⟩ := run_makeSlice_full (P := Tryz.prog) (w := w) 0 89 3 i0 (.int .i64 0) 1 Tryz.underlying89 h1 h2 h3 .i64 .i64 n (by omega) (by rw [h4]; omega) (by unfold maxLen; omega) (Nat.zero_le _)
  rcases hown.2 with ⟨e, _⟩ | ⟨g, cap, cur, e, _, hh, _, _, hs, _⟩
  · cases e
  · cases e
    exact ⟨w', cur, hr, hh, by omega, ⟨hg.os, hg.tape, hg.output, hg.size, fun b hb => hg.block b hb (by simp)⟩⟩
theorem ia_ints (g o k n c : Nat) (h : k < n) (W : World) : (Instr.indexAt 89 (.slice (some ⟨g, o, none⟩) n c) (.int .i64 (k : Int))).run Tryz.prog W = .ok (.pointer (some ⟨g, o + k, none⟩)) W := by
  have h1 : 0 ≤ (k : Int) := by omega
  simp [go_sem, h, addr_add]
/-- Places written so far. -/
def Fill (n g : Nat) (w3 W : World) (j : Nat) : Prop := Below g w3 W ∧ ∃ cs, W.heap[g]? = some (.cells cs 3 (0, 0)) ∧ cs.size = n ∧ ∀ i, i < j → cs[i]? = some (.int .i64 (i : Int))
theorem Fill.step {n g : Nat} {w3 W : World} {j : Nat} (h : Fill n g w3 W j) (hj : j < n) : (∃ u, W.cell? ⟨g, j, none⟩ = some u) ∧ W.frozen? ⟨g, j, none⟩ = false ∧ Fill n g w3 (W.setCell ⟨g, j, none⟩ (.int .i64 (j : Int))) (j + 1) := by
  obtain ⟨hb, cs, hh, hs, hc⟩ := h
  refine ⟨⟨cs[j]'(by omega), cellOf hh (Array.getElem?_eq_getElem (by omega))⟩, freeOf hh, belowSet hb (Nat.le_refl _) _ (o := j), _, box_set (k := j) _ hh, by simp [hs], fun i hi => ?_⟩
  by_cases e : i = j
  · subst e; simp [hs, hj]
  · rw [Array.getElem?_setIfInBounds, if_neg (fun h => e h.symm)]; exact hc i (by omega)
def V0 : V := .mk 0 false 0 [] [] []
/-- What Map answers. -/
def MapOk (w : World) (ks : List (List UInt8)) (l : List V) (e : Ending) (w' : World) : Prop :=
  Below w.heap.size w w' ∧ ∃ x no v, e = .returned (.tuple #[.agg x, .int .i64 no]) ∧ VOwn w' (fun b => w.heap.size ≤ b) v x ∧
    ((no = 2 ∧ v = V0 ∧ (ks.length ≠ l.length ∨ ¬ ks.Nodup)) ∨
     (no = 0 ∧ ks.length = l.length ∧ ∃ q : List Nat, q.Perm (List.range ks.length) ∧ v = .mk 5 false 0 [] (q.map fun i => ks.getD i []) (q.map fun i => l.getD i V0) ∧ risesB (q.map fun i => ks.getD i []) = true))
theorem own_zero (W : World) (P : Nat → Prop) : VOwn W P V0 #[.int .i64 0, .bool false, .int .i64 0, .string ⟨#[]⟩, .slice none 0 0, .slice none 0 0] :=
  VOwn_iff.2 ⟨_, _, rfl, ⟨⟨rfl, .inl ⟨rfl, rfl⟩⟩, fun g hg => by simp [Value.ownBlock] at hg⟩, [], ⟨⟨rfl, .inl ⟨rfl, rfl⟩⟩, fun g hg => by simp [Value.ownBlock] at hg⟩, rfl⟩
/-- What lies about Map: its boxes. -/
structure MapB (w : World) (p : Option Addr) (n c : Nat) (W : World) : Prop where
  keys : W.heap[w.heap.size]? = some (.cells #[.slice p n c] 23 (0, 0))
  res : W.heap[w.heap.size + 1]? = some (.cells #[.int .i64 0, .bool false, .int .i64 0, .string ⟨#[]⟩, .slice none 0 0, .slice none 0 0] 26 (0, 0))
  below : Below w.heap.size w W
theorem MapB.start (w : World) (p : Option Addr) (n c : Nat) : MapB w p n c ((w.alloc (.cells #[.slice p n c] 23)).alloc (.cells #[.int .i64 0, .bool false, .int .i64 0, .string ⟨#[]⟩, .slice none 0 0, .slice none 0 0] 26)) := by
  have s1 : (w.alloc (.cells #[.slice p n c] 23)).heap.size = w.heap.size + 1 := by simp
  have h2 := heap_alloc_new (w.alloc (.cells #[.slice p n c] 23)) (.cells #[.int .i64 0, .bool false, .int .i64 0, .string ⟨#[]⟩, .slice none 0 0, .slice none 0 0] 26)
  rw [s1] at h2
  exact ⟨belowBlk (below_new _) (by simp) (heap_alloc_new w _), h2, below_trans (below_new _) (below_new _)⟩
theorem MapB.keep {w W W' : World} {p : Option Addr} {n c : Nat} (h : MapB w p n c W) {B : Nat} (g : Below B W W') (hB : w.heap.size + 2 ≤ B) : MapB w p n c W' :=
  ⟨(g.block _ (by omega)).trans h.keys, (g.block _ (by omega)).trans h.res, h.below.trans (g.mono (by omega))⟩
/-- A value comes into the box of results. -/
theorem MapB.put {w W : World} {p : Option Addr} {n c : Nat} (h : MapB w p n c W) {v : V} {x : Array Value} (hx : VOwn W (fun b => w.heap.size + 2 ≤ b) v x) :
    ∃ W', (storeVar 26 ⟨w.heap.size + 1, 0, none⟩ (.agg x)).run Tryz.prog W = .ok () W' ∧ (loadVar 26 ⟨w.heap.size + 1, 0, none⟩).run Tryz.prog W' = .ok (.agg x) W' ∧ VOwn W' (fun b => w.heap.size ≤ b) v x ∧ Below w.heap.size w W' := by
  obtain ⟨vk, vl, rfl, hk, hl⟩ := hx.open
  have h1 := run_storeVar_row (P := Tryz.prog) W (w.heap.size + 1) 26 26 _ #[.int .i64 v.kind, .bool v.b, .int .i64 v.n, .string (strB v.text), vk, vl] h.res (by kernel_rfl) rfl (Array.all_eq_true_iff_forall_mem.2 fun u hu => hx.ones u (by simpa using hu))
  have h2 := setRow_heap W (w.heap.size + 1) _ #[.int .i64 v.kind, .bool v.b, .int .i64 v.n, .string (strB v.text), vk, vl] 26 _ h.res
  have hT : Touch (fun b => b = w.heap.size + 1) W (W.setRow (w.heap.size + 1) #[.int .i64 v.kind, .bool v.b, .int .i64 v.n, .string (strB v.text), vk, vl]) := ⟨rfl, rfl, rfl, by simp, fun g _ hg => setRow_other W (w.heap.size + 1) g _ hg⟩
  exact ⟨_, h1, get_val h2, (hx.keep fun b hb _ => setRow_other W (w.heap.size + 1) b _ (by omega)).imp fun b _ hb => by omega, hT.below h.below (fun b hb e => by omega) h.below.size⟩
/-- The map that is being made, in its box. -/
structure MapV (w5 W : World) (vk vl : Value) (K : List (List UInt8)) (L : List V) : Prop where
  box : W.heap[w5.heap.size]? = some (.cells #[.int .i64 5, .bool false, .int .i64 0, .string ⟨#[]⟩, vk, vl] 26 (0, 0))
  inv : MInv w5.heap.size W vk vl K L
  below : Below w5.heap.size w5 W
theorem MapV.start (w5 : World) : MapV w5 (w5.alloc (.cells #[.int .i64 5, .bool false, .int .i64 0, .string ⟨#[]⟩, .slice none 0 0, .slice none 0 0] 26)) (.slice none 0 0) (.slice none 0 0) [] [] :=
  ⟨heap_alloc_new _ _, MInv.start _ _, below_new _⟩
theorem MapV.keep {w5 W W' : World} {vk vl : Value} {K : List (List UInt8)} {L : List V} (h : MapV w5 W vk vl K L) (g : Below W.heap.size W W') : MapV w5 W' vk vl K L :=
  ⟨belowBlk g (Array.getElem?_eq_some_iff.1 h.box).1 h.box, h.inv.below g, h.below.trans (g.mono h.below.size)⟩
theorem MapV.lt {w5 W : World} {vk vl : Value} {K : List (List UInt8)} {L : List V} (h : MapV w5 W vk vl K L) : w5.heap.size < W.heap.size := (Array.getElem?_eq_some_iff.1 h.box).1
theorem MapV.own {w5 W : World} {vk vl : Value} {K : List (List UInt8)} {L : List V} (h : MapV w5 W vk vl K L) : VOwn W (fun b => w5.heap.size ≤ b) (.mk 5 false 0 [] K L) #[.int .i64 5, .bool false, .int .i64 0, .string ⟨#[]⟩, vk, vl] := by
  obtain ⟨h1, xs, h2, h3⟩ := h.inv
  exact VOwn_iff.2 ⟨_, _, rfl, h1.imp fun b _ hb => by omega, xs, h2.imp fun b _ hb => by omega, h3.imp fun b _ hb => by omega⟩
/-- A key more. -/
theorem MapV.key {w5 W : World} {vk vl : Value} {K : List (List UInt8)} {L : List V} (h : MapV w5 W vk vl K L) (s : List UInt8) (hn : K.length ≤ 1000000) (ty : TypeId) :
    ∃ p n c W2, (Builtin.append_ #[23, 23] ty #[vk, .slice (some ⟨W.heap.size, 0, none⟩) 1 1]).run Tryz.prog (W.alloc (.cells #[.string (strB s)] 9)) = .ok (.slice p n c) W2 ∧
      Below (w5.heap.size + 1) W W2 ∧ W2.cell? ⟨w5.heap.size, 4, none⟩ = some vk ∧ W2.frozen? ⟨w5.heap.size, 4, none⟩ = false ∧ MapV w5 (W2.setCell ⟨w5.heap.size, 4, none⟩ (.slice p n c)) (.slice p n c) vl (K ++ [s]) L := by
  have hA : MapV w5 (W.alloc (.cells #[.string (strB s)] 9)) vk vl K L := h.keep (below_new _)
  have hlt := h.lt
  obtain ⟨v', W2, a1, a2, a3⟩ := hA.inv.key (heap_alloc_new W _) hn (by simp; omega) ty
  obtain ⟨p, c, rfl⟩ := slices_of a2.keys
  have hb2 := (a3.block _ (by omega)).trans hA.box
  refine ⟨p, _, c, W2, a1, (((below_new _).mono (by omega : w5.heap.size + 1 ≤ W.heap.size))).trans a3, cellOf (o := 4) hb2 rfl, freeOf hb2, box_set (k := 4) _ hb2, a2.keep fun b hb _ => Below.heap_setCell W2 ⟨w5.heap.size, 4, none⟩ _ b (by show b ≠ w5.heap.size; omega), belowSet (hA.below.trans (a3.mono (by omega))) (Nat.le_refl _) _⟩
/-- A value more. -/
theorem MapV.val {w5 W W1 : World} {vk vl : Value} {K : List (List UInt8)} {L : List V} (h : MapV w5 W vk vl K L) (hb : Below W.heap.size W W1) {v : V} {x : Array Value} (hx : VOwn W1 (fun b => W.heap.size ≤ b) v x) (hn : L.length ≤ 1000000) (ty : TypeId) :
    ∃ p n c W2, (Builtin.append_ #[24, 24] ty #[vl, .slice (some ⟨W1.heap.size, 0, none⟩) 1 1]).run Tryz.prog (W1.alloc (.cells x 26)) = .ok (.slice p n c) W2 ∧
      Below (w5.heap.size + 1) W W2 ∧ W2.cell? ⟨w5.heap.size, 5, none⟩ = some vl ∧ W2.frozen? ⟨w5.heap.size, 5, none⟩ = false ∧ MapV w5 (W2.setCell ⟨w5.heap.size, 5, none⟩ (.slice p n c)) vk (.slice p n c) K (L ++ [v]) := by
  have h1 := h.keep hb
  have hA : MapV w5 (W1.alloc (.cells x 26)) vk vl K L := h1.keep (below_new _)
  have hlt := h.lt
  have hsz := hb.size
  have hkb : ∀ b, vk.ownBlock = some b → b < W.heap.size := fun b e => (h.inv.keys.1.lt b e).2
  have hlb : ∀ b, vl.ownBlock = some b → b < W.heap.size := by
    obtain ⟨_, xs, h2, _⟩ := h.inv
    exact fun b e => (h2.1.lt b e).2
  obtain ⟨v', W2, a1, a2, a3⟩ := hA.inv.val ((hx.below (below_new _)).imp fun b _ hp => ⟨by omega, fun e => by have := hlb b e; omega, fun e => by have := hkb b e; omega⟩) (heap_alloc_new W1 _) hn (by simp; omega) ty
  obtain ⟨p, c, rfl⟩ : ∃ p c, v' = .slice p (L ++ [v]).length c := by obtain ⟨_, _, h, _⟩ := a2; exact slices_of h
  have hb2 := (a3.block _ (by omega)).trans hA.box
  refine ⟨p, _, c, W2, a1, ((hb.mono (by omega : w5.heap.size + 1 ≤ W.heap.size)).trans ((below_new _).mono (by omega : w5.heap.size + 1 ≤ W1.heap.size))).trans a3, cellOf (o := 5) hb2 rfl, freeOf hb2, box_set (k := 5) _ hb2, a2.keep fun b hb _ => Below.heap_setCell W2 ⟨w5.heap.size, 5, none⟩ _ b (by show b ≠ w5.heap.size; omega), belowSet (hA.below.trans (a3.mono (by omega))) (Nat.le_refl _) _⟩
/-! ### The order of keys -/
theorem take_map {α : Type} (f : Nat → α) {q : List Nat} {j a : Nat} (h : q[j]? = some a) : (q.take (j + 1)).map f = (q.take j).map f ++ [f a] := by
  obtain ⟨hj, rfl⟩ := List.getElem?_eq_some_iff.1 h
  rw [List.take_succ_eq_append_getElem hj, List.map_append, List.map_cons, List.map_nil]
theorem rise_step {f : Nat → List UInt8} {q : List Nat} {m a b : Nat} (ha : q[m]? = some a) (hb : q[m + 1]? = some b) (h : cmpB (f a) (f b) ≤ 0) (hne : f a ≠ f b) (hr : risesB ((q.take (m + 1)).map f) = true) : risesB ((q.take (m + 2)).map f) = true := by
  rw [take_map f hb, take_map f ha]
  rw [take_map f ha] at hr
  refine rises_snoc ?_ _ hr
  have h1 : cmpB (f a) (f b) ≠ 0 := fun e => hne (cmpB_zero e)
  have h2 := (ord_cmpB (f a)).range (f b)
  unfold ltB
  rw [beq_iff_eq]
  omega
theorem not_nodup {ks : List (List UInt8)} {q : List Nat} (hp : q.Perm (List.range ks.length)) {m a b : Nat} (ha : q[m]? = some a) (hb : q[m + 1]? = some b) (h : ks.getD a [] = ks.getD b []) : ¬ ks.Nodup := by
  intro hd
  obtain ⟨hm, rfl⟩ := List.getElem?_eq_some_iff.1 ha
  obtain ⟨hm1, rfl⟩ := List.getElem?_eq_some_iff.1 hb
  have h1 : q[m] < ks.length := List.mem_range.1 (hp.mem_iff.1 (List.getElem_mem hm))
  have h2 : q[m + 1] < ks.length := List.mem_range.1 (hp.mem_iff.1 (List.getElem_mem hm1))
  have hq : q.Nodup := hp.nodup_iff.2 List.nodup_range
  have hne : q[m] ≠ q[m + 1] := List.pairwise_iff_getElem.1 hq m (m + 1) hm hm1 (Nat.lt_succ_self _)
  have g1 : ks.getD q[m] [] = ks[q[m]] := by simp [List.getD, h1]
  have g2 : ks.getD q[m + 1] [] = ks[q[m + 1]] := by simp [List.getD, h2]
  rw [g1, g2] at h
  rcases Nat.lt_or_gt_of_ne hne with c | c
  · exact List.pairwise_iff_getElem.1 hd _ _ h1 h2 c h
  · exact List.pairwise_iff_getElem.1 hd _ _ h2 h1 c h.symm
/-! ### What the drawn regions see -/
structure M14 (kb bk ok n ck g m a b : Nat) (s1 s2 : List UInt8) (W : World) : Prop where
  box : W.heap[kb]? = some (.cells #[.slice (some ⟨bk, ok, none⟩) n ck] 23 (0, 0))
  ix : W.cell? ⟨g, m, none⟩ = some (.int .i64 (a : Int))
  one : W.cell? ⟨bk, ok + a, none⟩ = some (.string (strB s1))
  two : W.cell? ⟨bk, ok + b, none⟩ = some (.string (strB s2))
structure M16 (kb bk ok n ck vb b : Nat) (x : Array Value) (s : List UInt8) (W : World) : Prop where
  box : W.heap[kb]? = some (.cells #[.slice (some ⟨bk, ok, none⟩) n ck] 23 (0, 0))
  val : W.heap[vb]? = some (.cells x 26 (0, 0))
  two : W.cell? ⟨bk, ok + b, none⟩ = some (.string (strB s))
theorem M16.keep {kb bk ok n ck vb b : Nat} {x : Array Value} {s : List UInt8} {W W' : World} (h : M16 kb bk ok n ck vb b x s W) {B : Nat} (g : Below B W W') (h1 : kb < B) (h2 : vb < B) (h3 : bk < B) : M16 kb bk ok n ck vb b x s W' :=
  ⟨(g.block _ h1).trans h.box, (g.block _ h2).trans h.val, belowCell g h3 h.two⟩
structure M17 (vb bl o : Nat) (x : Array Value) (c0 c1 c2 c3 c4 c5 : Value) (W : World) : Prop where
  val : W.heap[vb]? = some (.cells x 26 (0, 0))
  c0 : W.cell? ⟨bl, o, none⟩ = some c0
  c1 : W.cell? ⟨bl, o + 1, none⟩ = some c1
  c2 : W.cell? ⟨bl, o + 2, none⟩ = some c2
  c3 : W.cell? ⟨bl, o + 3, none⟩ = some c3
  c4 : W.cell? ⟨bl, o + 4, none⟩ = some c4
  c5 : W.cell? ⟨bl, o + 5, none⟩ = some c5
theorem M17.keep {vb bl o : Nat} {x : Array Value} {c0 c1 c2 c3 c4 c5 : Value} {W W' : World} (h : M17 vb bl o x c0 c1 c2 c3 c4 c5 W) {B : Nat} (g : Below B W W') (h1 : vb < B) (h2 : bl < B) : M17 vb bl o x c0 c1 c2 c3 c4 c5 W' :=
  ⟨(g.block _ h1).trans h.val, belowCell g h2 h.c0, belowCell g h2 h.c1, belowCell g h2 h.c2, belowCell g h2 h.c3, belowCell g h2 h.c4, belowCell g h2 h.c5⟩
theorem ia_ints0 (g k n c : Nat) (h : k < n) (W : World) : (Instr.indexAt 89 (.slice (some ⟨g, 0, none⟩) n c) (.int .i64 (k : Int))).run Tryz.prog W = .ok (.pointer (some ⟨g, k, none⟩)) W := by
  have := ia_ints g 0 k n c h W
  rwa [Nat.zero_add] at this
theorem build_val (W : World) {P : Nat → Prop} {v : V} {k : Int} {b : Bool} {n : Int} {t : ByteArray} {vk vl : Value} (h : VOwn W P v #[.int .i64 k, .bool b, .int .i64 n, .string t, vk, vl]) :
    (Instr.buildSlice 24 1 #[(0, .agg #[.int .i64 k, .bool b, .int .i64 n, .string t, vk, vl])]).run Tryz.prog W = .ok (.slice (some ⟨W.heap.size, 0, none⟩) 1 1) (W.alloc (.cells #[.int .i64 k, .bool b, .int .i64 n, .string t, vk, vl] 26)) := by
  obtain ⟨vk', vl', e, hk, hl⟩ := h.open
  simp only [Array.mk.injEq, List.cons.injEq, and_true] at e
  obtain ⟨_, _, _, _, rfl, rfl⟩ := e
  obtain ⟨p, c, rfl⟩ := slices_of hk
  obtain ⟨xs, hl1, _⟩ := hl
  obtain ⟨p', c', rfl⟩ := slices_of hl1
  simp [go_sem]
/-- The order of places, as it lies. -/
structure MapQ (g : Nat) (w5 : World) (ks : List (List UInt8)) (q : List Nat) (cs : Array Value) : Prop where
  intro ::
  row : w5.heap[g]? = some (.cells cs 3 (0, 0))
  perm : q.Perm (List.range ks.length)
  order : InOrder ks q
  cell : ∀ i (hi : i < q.length), cs[i]? = some (.int .i64 (q[i] : Int))
theorem MapQ.len {g : Nat} {w5 : World} {ks : List (List UInt8)} {q : List Nat} {cs : Array Value} (h : MapQ g w5 ks q cs) : q.length = ks.length := by have := h.perm.length_eq; simpa using this
theorem MapQ.get {g : Nat} {w5 : World} {ks : List (List UInt8)} {q : List Nat} {cs : Array Value} (h : MapQ g w5 ks q cs) {j : Nat} (hj : j < ks.length) :
    ∃ b, q[j]? = some b ∧ b < ks.length ∧ ∀ W, Below w5.heap.size w5 W → W.cell? ⟨g, j, none⟩ = some (.int .i64 (b : Int)) := by
  have hq : j < q.length := by rw [h.len]; exact hj
  refine ⟨q[j], List.getElem?_eq_getElem hq, List.mem_range.1 (h.perm.mem_iff.1 (List.getElem_mem hq)), fun W hb => ?_⟩
  exact cellOf (belowBlk hb (Array.getElem?_eq_some_iff.1 h.row).1 h.row) (h.cell j hq)
theorem MapQ.le {g : Nat} {w5 : World} {ks : List (List UInt8)} {q : List Nat} {cs : Array Value} (h : MapQ g w5 ks q cs) {m a b : Nat} (ha : q[m]? = some a) (hb : q[m + 1]? = some b) : cmpB (ks.getD a []) (ks.getD b []) ≤ 0 := by
  obtain ⟨hm, rfl⟩ := List.getElem?_eq_some_iff.1 ha
  obtain ⟨hm1, rfl⟩ := List.getElem?_eq_some_iff.1 hb
  exact h.order m (m + 1) hm hm1 (Nat.lt_succ_self _)
/-- The map as far as it is made: j keys of the order. -/
def MapJ (w5 W : World) (ks : List (List UInt8)) (l : List V) (q : List Nat) (j : Nat) : Prop :=
  ∃ pk nk ck pl nl cl, MapV w5 W (.slice pk nk ck) (.slice pl nl cl) ((q.take j).map fun i => ks.getD i []) ((q.take j).map fun i => l.getD i V0) ∧ risesB ((q.take j).map fun i => ks.getD i []) = true
theorem MapJ.start (w5 : World) (ks : List (List UInt8)) (l : List V) (q : List Nat) : MapJ w5 (w5.alloc (.cells #[.int .i64 5, .bool false, .int .i64 0, .string ⟨#[]⟩, .slice none 0 0, .slice none 0 0] 26)) ks l q 0 :=
  ⟨none, 0, 0, none, 0, 0, MapV.start w5, rfl⟩
theorem MapB.lt {w W : World} {p : Option Addr} {n c : Nat} (h : MapB w p n c W) : w.heap.size + 1 < W.heap.size := (Array.getElem?_eq_some_iff.1 h.res).1
set_option maxRecDepth 100000 in
set_option maxHeartbeats 8000000 in
theorem map_any {w : World} {pk : Option Addr} {ck : Nat} {ks : List (List UInt8)} {pl : Option Addr} {cl : Nat} {l : List V} (hk : RdS w pk ck ks) (hl : LRd w pl cl l) (hn : ks.length ≤ 1000000) (ht : totVs l ≤ 1000000) :
    Calls Tryz.prog 36 #[.slice pk ks.length ck, .slice pl l.length cl] w (MapOk w ks l) := by
  have hll : l.length ≤ 1000000 := by have := totVs_length l; omega
  have z1 : (ks.length : Int) ≤ 1000000 := by omega
  have z2 : (l.length : Int) ≤ 1000000 := by omega
  have hT := MapB.start w pk ks.length ck
  by_cases he : ks.length = l.length
  · have hA : ∀ (no : Int) (v : V) (W : World) (x : Array Value), Below w.heap.size w W → VOwn W (fun b => w.heap.size ≤ b) v x →
        ((no = 2 ∧ v = V0 ∧ ¬ ks.Nodup) ∨ (no = 0 ∧ ∃ q : List Nat, q.Perm (List.range ks.length) ∧ v = .mk 5 false 0 [] (q.map fun i => ks.getD i []) (q.map fun i => l.getD i V0) ∧ risesB (q.map fun i => ks.getD i []) = true)) →
        MapOk w ks l (.returned (.tuple #[.agg x, .int .i64 no])) W := by
      intro no v W x h1 h2 h3
      refine ⟨h1, x, no, v, rfl, h2, ?_⟩
      rcases h3 with ⟨a, b, c⟩ | ⟨a, b⟩
      · exact .inl ⟨a, b, .inr c⟩
      · exact .inr ⟨a, he, b⟩
    have HL := Lib.hid hl
    have hsub : ∀ v ∈ l, totV v ≤ 1000000 := fun v hv => by have := totVs_mem hv; omega
    have HE := Lib.hid (And.intro he hsub)
    have HNN := Lib.hid hn
    generalize MapOk w ks l = Q at *
    rw [← he]
    obtain ⟨w3, cs3, m1, m2, m3, m4⟩ := make_ints ks.length hn ((w.alloc (.cells #[.slice pk ks.length ck] 23)).alloc (.cells #[.int .i64 0, .bool false, .int .i64 0, .string ⟨#[]⟩, .slice none 0 0, .slice none 0 0] 26))
    have es : ((w.alloc (.cells #[.slice pk ks.length ck] 23)).alloc (.cells #[.int .i64 0, .bool false, .int .i64 0, .string ⟨#[]⟩, .slice none 0 0, .slice none 0 0] 26)).heap.size = w.heap.size + 2 := by simp
    rw [es] at m1 m2 m4
    have hB3 := hT.keep m4 (Nat.le_refl _)
    have HF3 : Hid (Fill ks.length (w.heap.size + 2) w3 w3 0) := Lib.hid ⟨Below.refl _ _, cs3, m2, m3, fun i hi => by omega⟩
    have HM := Lib.hid m1
    have HB3 := Lib.hid hB3
    have HK := Lib.hid hk
    have HA := Lib.hid hA
    clear hA hl hk hT hB3 m1 m2 m3 m4 es he hll z2 ht hsub
    go_enter Tryz.func36, Tryz.ntmps36
    go_wp2_with (first
      | (refine wpList_run rfl (exec_makeSlice rfl rfl rfl HM.out) ?_))
    go_loopw [22] (fun i W => ∃ j : Nat, j ≤ ks.length ∧ i = .int .i64 (j : Int) ∧ Hid (Fill ks.length (w.heap.size + 2) w3 W j)) (fun i _ => ks.length - (intOf i).toNat)
    case atStart => exact ⟨0, Nat.zero_le _, rfl, HF3⟩
    case round =>
      obtain ⟨j, hj, rfl, HJ⟩ := hrel
      by_cases hlt : j < ks.length
      · have hlt1 : j + 1 ≤ ks.length := hlt
        obtain ⟨⟨u, q1⟩, q2, hS⟩ := HJ.out.step hlt
        have HS := Lib.hid hS
        clear HJ hS
        go_wp2
        go_roundw
        case rel => exact ⟨j + 1, hlt1, by go_num, HS⟩
        case measure => simp [intOf]; omega
      · obtain rfl : j = ks.length := by omega
        obtain ⟨hb4, cs4, q1, q2, q3⟩ := HJ.out
        have hB4 := HB3.out.keep hb4 (Nat.le_refl _)
        have HS := Lib.hid (sort_keys (cap := ks.length) HK.out HNN.out hB4.below (Nat.le_refl _) (by omega : w.heap.size < w.heap.size + 2) hB4.keys q1 q2 q3)
        have HB4 := Lib.hid (And.intro hB4 (Array.getElem?_eq_some_iff.1 q1).1)
        clear HJ hb4 q1 q2 q3 hB4 HF3 HM HB3
        go_wp2_with (first
          | (go_at_call 80
             (
               refine HS.out.mono ?_
               rintro e w5 ⟨rfl, hT, q, cs5, q4, hp, ho, q5⟩
               have hb5 : Below (w.heap.size + 2) wr w5 := hT.toBelow (by have := HB4.out.2; omega) (fun b hb e => by omega)
               have HB5 := Lib.hid (HB4.out.1.keep hb5 (Nat.le_refl _))
               have HQ := Lib.hid (MapQ.intro q4 hp ho q5)
               have HJ0 := Lib.hid (MapJ.start w5 ks l q)
               clear hT hb5 q4 hp ho q5 HS HB4)))
        have hlen : q.length = ks.length := by have := HQ.out.perm.length_eq; simpa using this
        clear hlen
        go_loopw [36] (fun i W => ∃ j : Nat, j ≤ ks.length ∧ i = .int .i64 (j : Int) ∧ Hid (MapJ w5 W ks l q j)) (fun i _ => ks.length - (intOf i).toNat)
        case atStart => exact ⟨0, Nat.zero_le _, rfl, HJ0⟩
        case round =>
          clear HJ0
          obtain ⟨j, hj, rfl, HJ⟩ := hrel
          by_cases hlt : j < ks.length
          · have hlt1 : j + 1 ≤ ks.length := hlt
            obtain ⟨b, hqb, hbn, hcell⟩ := HQ.out.get hlt
            obtain ⟨pk', nk', ck', pl', nl', cl', hV, hR⟩ := HJ.out
            have hbw : Below w.heap.size w wr := HB5.out.below.trans (hV.below.mono (Nat.le_trans HB5.out.below.size (Nat.le_refl _)))
            have hbx := (HB5.out.keep hV.below (by have := HB5.out.lt; omega)).keys
            obtain ⟨bk, ok, rfl, k0, _⟩ := HK.out.get hbn
            obtain ⟨bl, ol, pk1, ck1, pl1, cl1, rfl, ⟨a0, a1, a2, a3, a4, a5⟩, hv1⟩ := HL.out.at (show b < l.length by rw [← HE.out.1]; exact hbn)
            have hkz := ltOf k0
            have hlz := ltOf a0
            have k1 := belowCell hbw hkz k0
            have hc5 := hcell wr hV.below
            have hs2 : ks.getD b [] = ks[b] := by simp [List.getD, hbn]
            have hv2 : l.getD b V0 = l[b]'(by rw [← HE.out.1]; exact hbn) := by simp [List.getD, show b < l.length by rw [← HE.out.1]; exact hbn]
            have htot := HE.out.2 _ (List.getElem_mem (show b < l.length by rw [← HE.out.1]; exact hbn))
            have hw5 := HB5.out.lt
            generalize hs2' : ks[b] = s2 at *
            generalize hv2' : l[b]'(by rw [← HE.out.1]; exact hbn) = v0 at *
            clear hs2' hv2'
            have hL9 : ((q.take j).map fun i => ks.getD i []).length ≤ 1000000 := by rw [List.length_map, List.length_take]; have := HNN.out; omega
            have hL8 : ((q.take j).map fun i => l.getD i V0).length ≤ 1000000 := by rw [List.length_map, List.length_take]; have := HNN.out; omega
            have HC := Lib.hid (And.intro (fun (W : World) (x : Array Value) => copy_any v0 htot W x) hv1)
            have HX := Lib.hid (And.intro hqb (And.intro hs2 (And.intro hv2 hcell)))
            have HG := Lib.hid (And.intro hV (And.intro hR (And.intro hbw (And.intro hbx (And.intro k1 (And.intro hL9 (And.intro hL8 (And.intro hw5 (And.intro hkz hlz)))))))))
            have HA6 := Lib.hid (And.intro a0 (And.intro a1 (And.intro a2 (And.intro a3 (And.intro a4 a5)))))
            clear hqb hs2 hv2 hcell hV hR hbw hbx k1 hL9 hL8 hw5 a0 a1 a2 a3 a4 a5 hv1 htot k0 HJ hkz hlz
            go_wp2
            by_cases hj0 : j = 0
            · have hgt : ∀ W : World, (binOp .gtr 3 (.int .i64 (j : Int)) (.int .i64 0)).run Tryz.prog W = .ok (.bool false) W := by
                intro W; simp [go_sem, hj0]
              refine plain_region_draws (fun _ => True) (by kernel_rfl) trivial (fun _ => ?_)
              refine take 0 41 (v := .int .i64 (j : Int)) rfl rfl (by kernel_rfl) (by kernel_rfl) (by kernel_rfl) rfl (fun W hW => exec_move rfl rfl) trivial ?_
              simp only [Act.put, List.setIfInBounds_toArray, List.set_cons_zero, List.set_cons_succ]
              refine take 1 42 (v := .bool false) rfl rfl (by kernel_rfl) (by kernel_rfl) (by kernel_rfl) rfl (fun W hW => exec_bini rfl rfl rfl (hgt W)) trivial ?_
              simp only [Act.put, List.setIfInBounds_toArray, List.set_cons_zero, List.set_cons_succ]
              refine take 2 43 (v := .bool false) rfl rfl (by kernel_rfl) (by kernel_rfl) (by kernel_rfl) rfl (fun W hW => exec_move rfl rfl) trivial ?_
              simp only [Act.put, List.setIfInBounds_toArray, List.set_cons_zero, List.set_cons_succ]
              refine takeNot 3 44 rfl rfl (by kernel_rfl) (by kernel_rfl) (by kernel_rfl) rfl trivial ?_
              simp only [Act.put, List.setIfInBounds_toArray, List.set_cons_zero, List.set_cons_succ]
              refine takeNot 4 45 rfl rfl (by kernel_rfl) (by kernel_rfl) (by kernel_rfl) rfl trivial ?_
              simp only [Act.put, List.setIfInBounds_toArray, List.set_cons_zero, List.set_cons_succ]
              refine takeNot 5 46 rfl rfl (by kernel_rfl) (by kernel_rfl) (by kernel_rfl) rfl trivial ?_
              simp only [Act.put, List.setIfInBounds_toArray, List.set_cons_zero, List.set_cons_succ]
              refine takeNot 6 47 rfl rfl (by kernel_rfl) (by kernel_rfl) (by kernel_rfl) rfl trivial ?_
              simp only [Act.put, List.setIfInBounds_toArray, List.set_cons_zero, List.set_cons_succ]
              refine takeNot 7 48 rfl rfl (by kernel_rfl) (by kernel_rfl) (by kernel_rfl) rfl trivial ?_
              simp only [Act.put, List.setIfInBounds_toArray, List.set_cons_zero, List.set_cons_succ]
              refine takeNot 8 49 rfl rfl (by kernel_rfl) (by kernel_rfl) (by kernel_rfl) rfl trivial ?_
              simp only [Act.put, List.setIfInBounds_toArray, List.set_cons_zero, List.set_cons_succ]
              refine takeNot 9 50 rfl rfl (by kernel_rfl) (by kernel_rfl) (by kernel_rfl) rfl trivial ?_
              simp only [Act.put, List.setIfInBounds_toArray, List.set_cons_zero, List.set_cons_succ]
              refine takeNot 10 51 rfl rfl (by kernel_rfl) (by kernel_rfl) (by kernel_rfl) rfl trivial ?_
              simp only [Act.put, List.setIfInBounds_toArray, List.set_cons_zero, List.set_cons_succ]
              refine takeNot 11 52 rfl rfl (by kernel_rfl) (by kernel_rfl) (by kernel_rfl) rfl trivial ?_
              simp only [Act.put, List.setIfInBounds_toArray, List.set_cons_zero, List.set_cons_succ]
              refine takeNot 12 53 rfl rfl (by kernel_rfl) (by kernel_rfl) (by kernel_rfl) rfl trivial ?_
              simp only [Act.put, List.setIfInBounds_toArray, List.set_cons_zero, List.set_cons_succ]
              refine takeNot 13 54 rfl rfl (by kernel_rfl) (by kernel_rfl) (by kernel_rfl) rfl trivial ?_
              simp only [Act.put, List.setIfInBounds_toArray, List.set_cons_zero, List.set_cons_succ]
              refine takeNot 14 55 rfl rfl (by kernel_rfl) (by kernel_rfl) (by kernel_rfl) rfl trivial ?_
              simp only [Act.put, List.setIfInBounds_toArray, List.set_cons_zero, List.set_cons_succ]
              refine takeNot 15 56 rfl rfl (by kernel_rfl) (by kernel_rfl) (by kernel_rfl) rfl trivial ?_
              simp only [Act.put, List.setIfInBounds_toArray, List.set_cons_zero, List.set_cons_succ]
              refine take 16 57 (v := .bool false) rfl rfl (by kernel_rfl) (by kernel_rfl) (by kernel_rfl) rfl (fun W hW => rfl) trivial ?_
              simp only [Act.put, List.setIfInBounds_toArray, List.set_cons_zero, List.set_cons_succ]
              refine done (by kernel_rfl) ?_ _
              go_wp2
              obtain ⟨hV, hR, hbw, hbx, k1, hL9, hL8, hw5, hkz, hlz⟩ := HG.out
              have hbd : Below wr.heap.size wr wr.drew.drew := ((Below.refl _ _).drew).drew
              have hV0 := hV.keep hbd
              have hU0 : M16 w.heap.size bk ok ks.length ck w5.heap.size b #[.int .i64 5, .bool false, .int .i64 0, .string ⟨#[]⟩, .slice pk' nk' ck', .slice pl' nl' cl'] s2 wr.drew.drew := ⟨hbx, hV0.box, k1⟩
              refine plain_region_draws (fun W => M16 w.heap.size bk ok ks.length ck w5.heap.size b #[.int .i64 5, .bool false, .int .i64 0, .string ⟨#[]⟩, .slice pk' nk' ck', .slice pl' nl' cl'] s2 W) (by kernel_rfl) hU0 (fun hU0 => ?_)
              generalize wr.drew.drew = W0 at *
              have hlt5 := hV0.lt
              have hbs : (Instr.buildSlice 23 1 #[(0, .string (strB s2))]).run Tryz.prog W0 = .ok (.slice (some ⟨W0.heap.size, 0, none⟩) 1 1) (W0.alloc (.cells #[.string (strB s2)] 9)) := by simp [go_sem]
              obtain ⟨p4, n4, c4, W4, ha4, hb4, hc4, hf4, hV4⟩ := MapV.key hV0 s2 hL9 23
              have hU1 := hU0.keep (below_new (.cells #[.string (strB s2)] 9)) (by omega) (by omega) (by omega)
              have hU2 := hU0.keep hb4 (by omega) (by omega) (by omega)
              have hst4 := put_keys (p := p4) (n := n4) (c := c4) hc4 hf4
              refine take 0 59 (v := .pointer (some ⟨w5.heap.size, 4, none⟩)) rfl rfl (by kernel_rfl) (by kernel_rfl) (by kernel_rfl) rfl (fun W hW => exec_fieldAddr rfl rfl (fa_value _ _ (by decide) W)) (by assumption) ?_
              simp only [Act.put, List.setIfInBounds_toArray, List.set_cons_zero, List.set_cons_succ]
              refine take 1 60 (v := .slice pk' nk' ck') rfl rfl (by kernel_rfl) (by kernel_rfl) (by kernel_rfl) rfl (fun W hW => exec_load rfl rfl (run_load1 (w := W) Tryz.underlying23 rfl (cellOf hW.val rfl))) (by assumption) ?_
              simp only [Act.put, List.setIfInBounds_toArray, List.set_cons_zero, List.set_cons_succ]
              refine take 2 61 (v := .slice (some ⟨bk, ok, none⟩) ks.length ck) rfl rfl (by kernel_rfl) (by kernel_rfl) (by kernel_rfl) rfl (fun W hW => exec_load rfl rfl (run_load1 (w := W) Tryz.underlying23 rfl (cellOf hW.box rfl))) (by assumption) ?_
              simp only [Act.put, List.setIfInBounds_toArray, List.set_cons_zero, List.set_cons_succ]
              refine take 3 62 (v := .int .i64 (b : Int)) rfl rfl (by kernel_rfl) (by kernel_rfl) (by kernel_rfl) rfl (fun W hW => exec_move rfl rfl) (by assumption) ?_
              simp only [Act.put, List.setIfInBounds_toArray, List.set_cons_zero, List.set_cons_succ]
              refine take 4 63 (v := .pointer (some ⟨bk, ok + b, none⟩)) rfl rfl (by kernel_rfl) (by kernel_rfl) (by kernel_rfl) rfl (fun W hW => exec_indexAddr rfl rfl rfl (ia_keys _ _ _ _ _ hbn W)) (by assumption) ?_
              simp only [Act.put, List.setIfInBounds_toArray, List.set_cons_zero, List.set_cons_succ]
              refine take 5 64 (v := .string (strB s2)) rfl rfl (by kernel_rfl) (by kernel_rfl) (by kernel_rfl) rfl (fun W hW => exec_load rfl rfl (run_load1 (w := W) Tryz.underlying9 rfl hW.two)) (by assumption) ?_
              simp only [Act.put, List.setIfInBounds_toArray, List.set_cons_zero, List.set_cons_succ]
              refine onlyRun 6 65 (v := .slice (some ⟨W0.heap.size, 0, none⟩) 1 1) rfl rfl (by kernel_rfl) rfl (exec_buildSlice1 rfl rfl hbs) (.inr hU1) ?_
              simp only [Act.put, List.setIfInBounds_toArray, List.set_cons_zero, List.set_cons_succ]
              refine onlyRun 7 66 (v := .slice p4 n4 c4) rfl rfl (by kernel_rfl) rfl (exec_append rfl rfl rfl ha4) (.inr hU2) ?_
              simp only [Act.put, List.setIfInBounds_toArray, List.set_cons_zero, List.set_cons_succ]
              refine take 8 67 (v := .pointer (some ⟨w5.heap.size, 4, none⟩)) rfl rfl (by kernel_rfl) (by kernel_rfl) (by kernel_rfl) rfl (fun W hW => exec_fieldAddr rfl rfl (fa_value _ _ (by decide) W)) (by assumption) ?_
              simp only [Act.put, List.setIfInBounds_toArray, List.set_cons_zero, List.set_cons_succ]
              refine onlySkip 9 rfl rfl (by kernel_rfl) rfl (exec_store rfl rfl rfl hst4) (.inl (by kernel_rfl)) ?_
              refine done (by kernel_rfl) ?_ _
              clear hU0 hU1 hU2 hbs ha4 hst4 hb4 hc4 hf4
              generalize W4.setCell ⟨w5.heap.size, 4, none⟩ (.slice p4 n4 c4) = W5 at *
              go_wp2
              have hV3 := hV4.keep ((Below.refl _ _).drew)
              have hb3 : Below w.heap.size w W5.drew := HB5.out.below.trans (hV3.below.mono HB5.out.below.size)
              have hU0 : M17 w5.heap.size bl (ol + b * 6) #[.int .i64 5, .bool false, .int .i64 0, .string ⟨#[]⟩, .slice p4 n4 c4, .slice pl' nl' cl'] (.int .i64 v0.kind) (.bool v0.b) (.int .i64 v0.n) (.string (strB v0.text)) (.slice pk1 v0.keys.length ck1) (.slice pl1 v0.list.length cl1) W5.drew := ⟨hV3.box, belowCell hb3 hlz HA6.out.1, belowCell hb3 hlz HA6.out.2.1, belowCell hb3 hlz HA6.out.2.2.1, belowCell hb3 hlz HA6.out.2.2.2.1, belowCell hb3 hlz HA6.out.2.2.2.2.1, belowCell hb3 hlz HA6.out.2.2.2.2.2⟩
              refine plain_region_draws (fun W => M17 w5.heap.size bl (ol + b * 6) #[.int .i64 5, .bool false, .int .i64 0, .string ⟨#[]⟩, .slice p4 n4 c4, .slice pl' nl' cl'] (.int .i64 v0.kind) (.bool v0.b) (.int .i64 v0.n) (.string (strB v0.text)) (.slice pk1 v0.keys.length ck1) (.slice pl1 v0.list.length cl1) W) (by kernel_rfl) hU0 (fun hU0 => ?_)
              generalize W5.drew = W6 at *
              refine take 0 68 (v := .pointer (some ⟨w5.heap.size, 5, none⟩)) rfl rfl (by kernel_rfl) (by kernel_rfl) (by kernel_rfl) rfl (fun W hW => exec_fieldAddr rfl rfl (fa_value _ _ (by decide) W)) (by assumption) ?_
              simp only [Act.put, List.setIfInBounds_toArray, List.set_cons_zero, List.set_cons_succ]
              refine take 1 69 (v := .slice pl' nl' cl') rfl rfl (by kernel_rfl) (by kernel_rfl) (by kernel_rfl) rfl (fun W hW => exec_load rfl rfl (run_load1 (w := W) Tryz.underlying24 rfl (cellOf hW.val rfl))) (by assumption) ?_
              simp only [Act.put, List.setIfInBounds_toArray, List.set_cons_zero, List.set_cons_succ]
              refine take 2 70 (v := .slice (some ⟨bl, ol, none⟩) ks.length cl) rfl rfl (by kernel_rfl) (by kernel_rfl) (by kernel_rfl) rfl (fun W hW => exec_move rfl rfl) (by assumption) ?_
              simp only [Act.put, List.setIfInBounds_toArray, List.set_cons_zero, List.set_cons_succ]
              refine take 3 71 (v := .int .i64 (b : Int)) rfl rfl (by kernel_rfl) (by kernel_rfl) (by kernel_rfl) rfl (fun W hW => exec_move rfl rfl) (by assumption) ?_
              simp only [Act.put, List.setIfInBounds_toArray, List.set_cons_zero, List.set_cons_succ]
              refine take 4 72 (v := .pointer (some ⟨bl, ol + b * 6, none⟩)) rfl rfl (by kernel_rfl) (by kernel_rfl) (by kernel_rfl) rfl (fun W hW => exec_indexAddr rfl rfl rfl (ia_vals _ _ _ _ _ hbn W)) (by assumption) ?_
              simp only [Act.put, List.setIfInBounds_toArray, List.set_cons_zero, List.set_cons_succ]
              refine take 5 73 (v := .agg #[.int .i64 v0.kind, .bool v0.b, .int .i64 v0.n, .string (strB v0.text), .slice pk1 v0.keys.length ck1, .slice pl1 v0.list.length cl1]) rfl rfl (by kernel_rfl) (by kernel_rfl) (by kernel_rfl) rfl (fun W hW => exec_load rfl rfl (get_six hW.c0 hW.c1 hW.c2 hW.c3 hW.c4 hW.c5)) (by assumption) ?_
              simp only [Act.put, List.setIfInBounds_toArray, List.set_cons_zero, List.set_cons_succ]
              refine onlyCall 6 74 rfl rfl (by kernel_rfl) rfl (exec_call [.agg #[.int .i64 v0.kind, .bool v0.b, .int .i64 v0.n, .string (strB v0.text), .slice pk1 v0.keys.length ck1, .slice pl1 v0.list.length cl1]] rfl rfl Tryz.func51 (by kernel_rfl) (by kernel_rfl)) ?_
              refine (HC.out.1 _ _ (HC.out.2.below hb3)).mono ?_
              rintro e w8 ⟨x8, rfl, hx8, hb8⟩
              obtain ⟨vk0, vl0, rfl, _⟩ := hx8.open
              obtain ⟨p9, n9, c9, W9, ha9, hb9, hc9, hf9, hV9⟩ := MapV.val hV3 hb8 hx8 hL8 24
              have hU8 := hU0.keep hb8 (Array.getElem?_eq_some_iff.1 hU0.val).1 (ltOf hU0.c0)
              have hU9 := hU8.keep (below_new (.cells #[.int .i64 v0.kind, .bool v0.b, .int .i64 v0.n, .string (strB v0.text), vk0, vl0] 26)) (Array.getElem?_eq_some_iff.1 hU8.val).1 (ltOf hU8.c0)
              have hU10 := hU0.keep hb9 (Nat.lt_succ_self _) (by omega)
              have hst9 := put_vals (p := p9) (n := n9) (c := c9) hc9 hf9
              have hbs9 : (Instr.buildSlice 24 1 #[(0, .agg #[.int .i64 v0.kind, .bool v0.b, .int .i64 v0.n, .string (strB v0.text), vk0, vl0])]).run Tryz.prog w8 = .ok (.slice (some ⟨w8.heap.size, 0, none⟩) 1 1) (w8.alloc (.cells #[.int .i64 v0.kind, .bool v0.b, .int .i64 v0.n, .string (strB v0.text), vk0, vl0] 26)) := build_val w8 hx8
              refine ⟨_, rfl, .inr hU8, ?_⟩
              simp only [Act.put, List.setIfInBounds_toArray, List.set_cons_zero, List.set_cons_succ]
              refine onlyRun 7 75 (v := .slice (some ⟨w8.heap.size, 0, none⟩) 1 1) rfl rfl (by kernel_rfl) rfl (exec_buildSlice1 rfl rfl hbs9) (.inr hU9) ?_
              simp only [Act.put, List.setIfInBounds_toArray, List.set_cons_zero, List.set_cons_succ]
              refine onlyRun 8 76 (v := .slice p9 n9 c9) rfl rfl (by kernel_rfl) rfl (exec_append rfl rfl rfl ha9) (.inr hU10) ?_
              simp only [Act.put, List.setIfInBounds_toArray, List.set_cons_zero, List.set_cons_succ]
              refine take 9 77 (v := .pointer (some ⟨w5.heap.size, 5, none⟩)) rfl rfl (by kernel_rfl) (by kernel_rfl) (by kernel_rfl) rfl (fun W hW => exec_fieldAddr rfl rfl (fa_value _ _ (by decide) W)) (by assumption) ?_
              simp only [Act.put, List.setIfInBounds_toArray, List.set_cons_zero, List.set_cons_succ]
              refine onlySkip 10 rfl rfl (by kernel_rfl) rfl (exec_store rfl rfl rfl hst9) (.inl (by kernel_rfl)) ?_
              refine done (by kernel_rfl) ?_ _
              clear hU0 hU8 hU9 hU10 hbs9 ha9 hst9 hb9 hc9 hf9 hb8 hx8 hb3 hV0 hV4
              generalize W9.setCell ⟨w5.heap.size, 5, none⟩ (.slice p9 n9 c9) = W10 at *
              have HE1 := Lib.hid (show MapJ w5 W10 ks l q (j + 1) from ⟨p4, n4, c4, p9, n9, c9, by rw [take_map _ HX.out.1, take_map _ HX.out.1, HX.out.2.1, HX.out.2.2.1]; exact hV9, by rw [hj0, take_map _ (hj0 ▸ HX.out.1)]; rfl⟩)
              clear hV hR hbw hbx k1 hL9 hL8 hw5 hkz hlz hV3 hV9 hbd hlt5
              go_wp2
              go_roundw
              case rel => exact ⟨j + 1, hlt1, by go_num, HE1⟩
              case measure => simp [intOf]; omega
            · obtain ⟨m, hm⟩ : ∃ m, j = m + 1 := ⟨j - 1, by omega⟩
              have hmj : m < ks.length := by omega
              obtain ⟨a, hqa, han, hca⟩ := HQ.out.get hmj
              obtain ⟨bk', ok', hp', ka, _⟩ := HK.out.get han
              cases hp'
              have ka1 := belowCell HG.out.2.2.1 HG.out.2.2.2.2.2.2.2.2.1 ka
              have hs1 : ks.getD a [] = ks[a] := by simp [List.getD, han]
              generalize ks[a] = s1 at *
              have hca1 := hca wr HG.out.1.below
              have hgt : ∀ W : World, (binOp .gtr 3 (.int .i64 (j : Int)) (.int .i64 0)).run Tryz.prog W = .ok (.bool true) W := by
                intro W; simp [go_sem]; omega
              have hsub : ∀ W : World, (binOp .sub 3 (.int .i64 (j : Int)) (.int .i64 1)).run Tryz.prog W = .ok (.int .i64 (m : Int)) W := by
                intro W
                have e : IntKind.i64.wrap ((j : Int) - 1) = m := by simp [IntKind.wrap, IntKind.signed, IntKind.bits]; omega
                simp [go_sem, e]
              have hU14 : M14 w.heap.size bk ok ks.length ck (w.heap.size + 2) m a b s1 s2 wr.drew := ⟨HG.out.2.2.2.1, hca1, ka1, HG.out.2.2.2.2.1⟩
              have HO := Lib.hid (And.intro hqa hs1)
              clear hqa hs1 hca hca1 ka ka1
              by_cases hss : s1 = s2
              · have heq : ∀ W : World, (binOp .eql 9 (.string (strB s1)) (.string (strB s2))).run Tryz.prog W = .ok (.bool true) W := by
                  intro W; simp [go_sem, hss]
                refine plain_region_draws (fun W => M14 w.heap.size bk ok ks.length ck (w.heap.size + 2) m a b s1 s2 W) (by kernel_rfl) hU14 (fun hU14 => ?_)
                refine take 0 41 (v := .int .i64 (j : Int)) rfl rfl (by kernel_rfl) (by kernel_rfl) (by kernel_rfl) rfl (fun W hW => exec_move rfl rfl) (by assumption) ?_
                simp only [Act.put, List.setIfInBounds_toArray, List.set_cons_zero, List.set_cons_succ]
                refine take 1 42 (v := .bool true) rfl rfl (by kernel_rfl) (by kernel_rfl) (by kernel_rfl) rfl (fun W hW => exec_bini rfl rfl rfl (hgt W)) (by assumption) ?_
                simp only [Act.put, List.setIfInBounds_toArray, List.set_cons_zero, List.set_cons_succ]
                refine take 2 43 (v := .bool true) rfl rfl (by kernel_rfl) (by kernel_rfl) (by kernel_rfl) rfl (fun W hW => exec_move rfl rfl) (by assumption) ?_
                simp only [Act.put, List.setIfInBounds_toArray, List.set_cons_zero, List.set_cons_succ]
                refine take 3 44 (v := .slice (some ⟨bk, ok, none⟩) ks.length ck) rfl rfl (by kernel_rfl) (by kernel_rfl) (by kernel_rfl) rfl (fun W hW => exec_load rfl rfl (run_load1 (w := W) Tryz.underlying23 rfl (cellOf hW.box rfl))) (by assumption) ?_
                simp only [Act.put, List.setIfInBounds_toArray, List.set_cons_zero, List.set_cons_succ]
                refine take 4 45 (v := .slice (some ⟨w.heap.size + 2, 0, none⟩) ks.length ks.length) rfl rfl (by kernel_rfl) (by kernel_rfl) (by kernel_rfl) rfl (fun W hW => exec_move rfl rfl) (by assumption) ?_
                simp only [Act.put, List.setIfInBounds_toArray, List.set_cons_zero, List.set_cons_succ]
                refine take 5 46 (v := .int .i64 (j : Int)) rfl rfl (by kernel_rfl) (by kernel_rfl) (by kernel_rfl) rfl (fun W hW => exec_move rfl rfl) (by assumption) ?_
                simp only [Act.put, List.setIfInBounds_toArray, List.set_cons_zero, List.set_cons_succ]
                refine take 6 47 (v := .int .i64 (m : Int)) rfl rfl (by kernel_rfl) (by kernel_rfl) (by kernel_rfl) rfl (fun W hW => exec_bini rfl rfl rfl (hsub W)) (by assumption) ?_
                simp only [Act.put, List.setIfInBounds_toArray, List.set_cons_zero, List.set_cons_succ]
                refine take 7 48 (v := .pointer (some ⟨w.heap.size + 2, m, none⟩)) rfl rfl (by kernel_rfl) (by kernel_rfl) (by kernel_rfl) rfl (fun W hW => exec_indexAddr rfl rfl rfl (ia_ints0 _ _ _ _ hmj W)) (by assumption) ?_
                simp only [Act.put, List.setIfInBounds_toArray, List.set_cons_zero, List.set_cons_succ]
                refine take 8 49 (v := .int .i64 (a : Int)) rfl rfl (by kernel_rfl) (by kernel_rfl) (by kernel_rfl) rfl (fun W hW => exec_load rfl rfl (run_load1 (w := W) Tryz.underlying3 rfl hW.ix)) (by assumption) ?_
                simp only [Act.put, List.setIfInBounds_toArray, List.set_cons_zero, List.set_cons_succ]
                refine take 9 50 (v := .pointer (some ⟨bk, ok + a, none⟩)) rfl rfl (by kernel_rfl) (by kernel_rfl) (by kernel_rfl) rfl (fun W hW => exec_indexAddr rfl rfl rfl (ia_keys _ _ _ _ _ han W)) (by assumption) ?_
                simp only [Act.put, List.setIfInBounds_toArray, List.set_cons_zero, List.set_cons_succ]
                refine take 10 51 (v := .string (strB s1)) rfl rfl (by kernel_rfl) (by kernel_rfl) (by kernel_rfl) rfl (fun W hW => exec_load rfl rfl (run_load1 (w := W) Tryz.underlying9 rfl hW.one)) (by assumption) ?_
                simp only [Act.put, List.setIfInBounds_toArray, List.set_cons_zero, List.set_cons_succ]
                refine take 11 52 (v := .slice (some ⟨bk, ok, none⟩) ks.length ck) rfl rfl (by kernel_rfl) (by kernel_rfl) (by kernel_rfl) rfl (fun W hW => exec_load rfl rfl (run_load1 (w := W) Tryz.underlying23 rfl (cellOf hW.box rfl))) (by assumption) ?_
                simp only [Act.put, List.setIfInBounds_toArray, List.set_cons_zero, List.set_cons_succ]
                refine take 12 53 (v := .int .i64 (b : Int)) rfl rfl (by kernel_rfl) (by kernel_rfl) (by kernel_rfl) rfl (fun W hW => exec_move rfl rfl) (by assumption) ?_
                simp only [Act.put, List.setIfInBounds_toArray, List.set_cons_zero, List.set_cons_succ]
                refine take 13 54 (v := .pointer (some ⟨bk, ok + b, none⟩)) rfl rfl (by kernel_rfl) (by kernel_rfl) (by kernel_rfl) rfl (fun W hW => exec_indexAddr rfl rfl rfl (ia_keys _ _ _ _ _ hbn W)) (by assumption) ?_
                simp only [Act.put, List.setIfInBounds_toArray, List.set_cons_zero, List.set_cons_succ]
                refine take 14 55 (v := .string (strB s2)) rfl rfl (by kernel_rfl) (by kernel_rfl) (by kernel_rfl) rfl (fun W hW => exec_load rfl rfl (run_load1 (w := W) Tryz.underlying9 rfl hW.two)) (by assumption) ?_
                simp only [Act.put, List.setIfInBounds_toArray, List.set_cons_zero, List.set_cons_succ]
                refine take 15 56 (v := .bool true) rfl rfl (by kernel_rfl) (by kernel_rfl) (by kernel_rfl) rfl (fun W hW => exec_bins rfl rfl rfl (heq W)) (by assumption) ?_
                simp only [Act.put, List.setIfInBounds_toArray, List.set_cons_zero, List.set_cons_succ]
                refine take 16 57 (v := .bool true) rfl rfl (by kernel_rfl) (by kernel_rfl) (by kernel_rfl) rfl (fun W hW => rfl) (by assumption) ?_
                simp only [Act.put, List.setIfInBounds_toArray, List.set_cons_zero, List.set_cons_succ]
                refine done (by kernel_rfl) ?_ _
                have hB := HB5.out.keep (B := w5.heap.size) (HG.out.1.below.drew) (by have := HB5.out.lt; omega)
                obtain ⟨W', s1', s2', s3', s4'⟩ := hB.put (own_zero _ _)
                have HS := Lib.hid s1'
                have HL2 := Lib.hid s2'
                have HF := Lib.hid (And.intro s3' s4')
                clear hB s1' s2' s3' s4' hU14
                go_wp2_with (first
                  | (refine wpList_store rfl _ _ _ _ rfl rfl rfl HS.out ?_))
                exact bodyPost_ret (results_cell_tmp rfl _ _ ⟨w.heap.size + 1, 0, none⟩ _ (.int .i64 2) rfl rfl HL2.out) rfl (HA.out 2 _ W' _ HF.out.2 HF.out.1 (.inl ⟨rfl, rfl, not_nodup HQ.out.perm HO.out.1 (by rw [← hm]; exact HX.out.1) (by rw [HO.out.2, HX.out.2.1]; exact hss)⟩))
              · have heq : ∀ W : World, (binOp .eql 9 (.string (strB s1)) (.string (strB s2))).run Tryz.prog W = .ok (.bool false) W := by
                  intro W; simp [go_sem, strB_toList, hss]
                refine plain_region_draws (fun W => M14 w.heap.size bk ok ks.length ck (w.heap.size + 2) m a b s1 s2 W) (by kernel_rfl) hU14 (fun hU14 => ?_)
                refine take 0 41 (v := .int .i64 (j : Int)) rfl rfl (by kernel_rfl) (by kernel_rfl) (by kernel_rfl) rfl (fun W hW => exec_move rfl rfl) (by assumption) ?_
                simp only [Act.put, List.setIfInBounds_toArray, List.set_cons_zero, List.set_cons_succ]
                refine take 1 42 (v := .bool true) rfl rfl (by kernel_rfl) (by kernel_rfl) (by kernel_rfl) rfl (fun W hW => exec_bini rfl rfl rfl (hgt W)) (by assumption) ?_
                simp only [Act.put, List.setIfInBounds_toArray, List.set_cons_zero, List.set_cons_succ]
                refine take 2 43 (v := .bool true) rfl rfl (by kernel_rfl) (by kernel_rfl) (by kernel_rfl) rfl (fun W hW => exec_move rfl rfl) (by assumption) ?_
                simp only [Act.put, List.setIfInBounds_toArray, List.set_cons_zero, List.set_cons_succ]
                refine take 3 44 (v := .slice (some ⟨bk, ok, none⟩) ks.length ck) rfl rfl (by kernel_rfl) (by kernel_rfl) (by kernel_rfl) rfl (fun W hW => exec_load rfl rfl (run_load1 (w := W) Tryz.underlying23 rfl (cellOf hW.box rfl))) (by assumption) ?_
                simp only [Act.put, List.setIfInBounds_toArray, List.set_cons_zero, List.set_cons_succ]
                refine take 4 45 (v := .slice (some ⟨w.heap.size + 2, 0, none⟩) ks.length ks.length) rfl rfl (by kernel_rfl) (by kernel_rfl) (by kernel_rfl) rfl (fun W hW => exec_move rfl rfl) (by assumption) ?_
                simp only [Act.put, List.setIfInBounds_toArray, List.set_cons_zero, List.set_cons_succ]
                refine take 5 46 (v := .int .i64 (j : Int)) rfl rfl (by kernel_rfl) (by kernel_rfl) (by kernel_rfl) rfl (fun W hW => exec_move rfl rfl) (by assumption) ?_
                simp only [Act.put, List.setIfInBounds_toArray, List.set_cons_zero, List.set_cons_succ]
                refine take 6 47 (v := .int .i64 (m : Int)) rfl rfl (by kernel_rfl) (by kernel_rfl) (by kernel_rfl) rfl (fun W hW => exec_bini rfl rfl rfl (hsub W)) (by assumption) ?_
                simp only [Act.put, List.setIfInBounds_toArray, List.set_cons_zero, List.set_cons_succ]
                refine take 7 48 (v := .pointer (some ⟨w.heap.size + 2, m, none⟩)) rfl rfl (by kernel_rfl) (by kernel_rfl) (by kernel_rfl) rfl (fun W hW => exec_indexAddr rfl rfl rfl (ia_ints0 _ _ _ _ hmj W)) (by assumption) ?_
                simp only [Act.put, List.setIfInBounds_toArray, List.set_cons_zero, List.set_cons_succ]
                refine take 8 49 (v := .int .i64 (a : Int)) rfl rfl (by kernel_rfl) (by kernel_rfl) (by kernel_rfl) rfl (fun W hW => exec_load rfl rfl (run_load1 (w := W) Tryz.underlying3 rfl hW.ix)) (by assumption) ?_
                simp only [Act.put, List.setIfInBounds_toArray, List.set_cons_zero, List.set_cons_succ]
                refine take 9 50 (v := .pointer (some ⟨bk, ok + a, none⟩)) rfl rfl (by kernel_rfl) (by kernel_rfl) (by kernel_rfl) rfl (fun W hW => exec_indexAddr rfl rfl rfl (ia_keys _ _ _ _ _ han W)) (by assumption) ?_
                simp only [Act.put, List.setIfInBounds_toArray, List.set_cons_zero, List.set_cons_succ]
                refine take 10 51 (v := .string (strB s1)) rfl rfl (by kernel_rfl) (by kernel_rfl) (by kernel_rfl) rfl (fun W hW => exec_load rfl rfl (run_load1 (w := W) Tryz.underlying9 rfl hW.one)) (by assumption) ?_
                simp only [Act.put, List.setIfInBounds_toArray, List.set_cons_zero, List.set_cons_succ]
                refine take 11 52 (v := .slice (some ⟨bk, ok, none⟩) ks.length ck) rfl rfl (by kernel_rfl) (by kernel_rfl) (by kernel_rfl) rfl (fun W hW => exec_load rfl rfl (run_load1 (w := W) Tryz.underlying23 rfl (cellOf hW.box rfl))) (by assumption) ?_
                simp only [Act.put, List.setIfInBounds_toArray, List.set_cons_zero, List.set_cons_succ]
                refine take 12 53 (v := .int .i64 (b : Int)) rfl rfl (by kernel_rfl) (by kernel_rfl) (by kernel_rfl) rfl (fun W hW => exec_move rfl rfl) (by assumption) ?_
                simp only [Act.put, List.setIfInBounds_toArray, List.set_cons_zero, List.set_cons_succ]
                refine take 13 54 (v := .pointer (some ⟨bk, ok + b, none⟩)) rfl rfl (by kernel_rfl) (by kernel_rfl) (by kernel_rfl) rfl (fun W hW => exec_indexAddr rfl rfl rfl (ia_keys _ _ _ _ _ hbn W)) (by assumption) ?_
                simp only [Act.put, List.setIfInBounds_toArray, List.set_cons_zero, List.set_cons_succ]
                refine take 14 55 (v := .string (strB s2)) rfl rfl (by kernel_rfl) (by kernel_rfl) (by kernel_rfl) rfl (fun W hW => exec_load rfl rfl (run_load1 (w := W) Tryz.underlying9 rfl hW.two)) (by assumption) ?_
                simp only [Act.put, List.setIfInBounds_toArray, List.set_cons_zero, List.set_cons_succ]
                refine take 15 56 (v := .bool false) rfl rfl (by kernel_rfl) (by kernel_rfl) (by kernel_rfl) rfl (fun W hW => exec_bins rfl rfl rfl (heq W)) (by assumption) ?_
                simp only [Act.put, List.setIfInBounds_toArray, List.set_cons_zero, List.set_cons_succ]
                refine take 16 57 (v := .bool false) rfl rfl (by kernel_rfl) (by kernel_rfl) (by kernel_rfl) rfl (fun W hW => rfl) (by assumption) ?_
                simp only [Act.put, List.setIfInBounds_toArray, List.set_cons_zero, List.set_cons_succ]
                refine done (by kernel_rfl) ?_ _
                have hq1 : q[m + 1]? = some b := by rw [← hm]; exact HX.out.1
                have hrise := rise_step (f := fun i => ks.getD i []) HO.out.1 hq1 (HQ.out.le HO.out.1 hq1) (by show ks.getD a [] ≠ ks.getD b []; rw [HO.out.2, HX.out.2.1]; exact hss) (by rw [← hm]; exact HG.out.2.1)
                rw [show m + 2 = j + 1 by omega] at hrise
                have HRI := Lib.hid hrise
                clear hU14 hq1 hrise
                go_wp2
                obtain ⟨hV, hR, hbw, hbx, k1, hL9, hL8, hw5, hkz, hlz⟩ := HG.out
                have hbd : Below wr.heap.size wr wr.drew.drew := ((Below.refl _ _).drew).drew
                have hV0 := hV.keep hbd
                have hU0 : M16 w.heap.size bk ok ks.length ck w5.heap.size b #[.int .i64 5, .bool false, .int .i64 0, .string ⟨#[]⟩, .slice pk' nk' ck', .slice pl' nl' cl'] s2 wr.drew.drew := ⟨hbx, hV0.box, k1⟩
                refine plain_region_draws (fun W => M16 w.heap.size bk ok ks.length ck w5.heap.size b #[.int .i64 5, .bool false, .int .i64 0, .string ⟨#[]⟩, .slice pk' nk' ck', .slice pl' nl' cl'] s2 W) (by kernel_rfl) hU0 (fun hU0 => ?_)
                generalize wr.drew.drew = W0 at *
                have hlt5 := hV0.lt
                have hbs : (Instr.buildSlice 23 1 #[(0, .string (strB s2))]).run Tryz.prog W0 = .ok (.slice (some ⟨W0.heap.size, 0, none⟩) 1 1) (W0.alloc (.cells #[.string (strB s2)] 9)) := by simp [go_sem]
                obtain ⟨p4, n4, c4, W4, ha4, hb4, hc4, hf4, hV4⟩ := MapV.key hV0 s2 hL9 23
                have hU1 := hU0.keep (below_new (.cells #[.string (strB s2)] 9)) (by omega) (by omega) (by omega)
                have hU2 := hU0.keep hb4 (by omega) (by omega) (by omega)
                have hst4 := put_keys (p := p4) (n := n4) (c := c4) hc4 hf4
                refine take 0 59 (v := .pointer (some ⟨w5.heap.size, 4, none⟩)) rfl rfl (by kernel_rfl) (by kernel_rfl) (by kernel_rfl) rfl (fun W hW => exec_fieldAddr rfl rfl (fa_value _ _ (by decide) W)) (by assumption) ?_
                simp only [Act.put, List.setIfInBounds_toArray, List.set_cons_zero, List.set_cons_succ]
                refine take 1 60 (v := .slice pk' nk' ck') rfl rfl (by kernel_rfl) (by kernel_rfl) (by kernel_rfl) rfl (fun W hW => exec_load rfl rfl (run_load1 (w := W) Tryz.underlying23 rfl (cellOf hW.val rfl))) (by assumption) ?_
                simp only [Act.put, List.setIfInBounds_toArray, List.set_cons_zero, List.set_cons_succ]
                refine take 2 61 (v := .slice (some ⟨bk, ok, none⟩) ks.length ck) rfl rfl (by kernel_rfl) (by kernel_rfl) (by kernel_rfl) rfl (fun W hW => exec_load rfl rfl (run_load1 (w := W) Tryz.underlying23 rfl (cellOf hW.box rfl))) (by assumption) ?_
                simp only [Act.put, List.setIfInBounds_toArray, List.set_cons_zero, List.set_cons_succ]
                refine take 3 62 (v := .int .i64 (b : Int)) rfl rfl (by kernel_rfl) (by kernel_rfl) (by kernel_rfl) rfl (fun W hW => exec_move rfl rfl) (by assumption) ?_
                simp only [Act.put, List.setIfInBounds_toArray, List.set_cons_zero, List.set_cons_succ]
                refine take 4 63 (v := .pointer (some ⟨bk, ok + b, none⟩)) rfl rfl (by kernel_rfl) (by kernel_rfl) (by kernel_rfl) rfl (fun W hW => exec_indexAddr rfl rfl rfl (ia_keys _ _ _ _ _ hbn W)) (by assumption) ?_
                simp only [Act.put, List.setIfInBounds_toArray, List.set_cons_zero, List.set_cons_succ]
                refine take 5 64 (v := .string (strB s2)) rfl rfl (by kernel_rfl) (by kernel_rfl) (by kernel_rfl) rfl (fun W hW => exec_load rfl rfl (run_load1 (w := W) Tryz.underlying9 rfl hW.two)) (by assumption) ?_
                simp only [Act.put, List.setIfInBounds_toArray, List.set_cons_zero, List.set_cons_succ]
                refine onlyRun 6 65 (v := .slice (some ⟨W0.heap.size, 0, none⟩) 1 1) rfl rfl (by kernel_rfl) rfl (exec_buildSlice1 rfl rfl hbs) (.inr hU1) ?_
                simp only [Act.put, List.setIfInBounds_toArray, List.set_cons_zero, List.set_cons_succ]
                refine onlyRun 7 66 (v := .slice p4 n4 c4) rfl rfl (by kernel_rfl) rfl (exec_append rfl rfl rfl ha4) (.inr hU2) ?_
                simp only [Act.put, List.setIfInBounds_toArray, List.set_cons_zero, List.set_cons_succ]
                refine take 8 67 (v := .pointer (some ⟨w5.heap.size, 4, none⟩)) rfl rfl (by kernel_rfl) (by kernel_rfl) (by kernel_rfl) rfl (fun W hW => exec_fieldAddr rfl rfl (fa_value _ _ (by decide) W)) (by assumption) ?_
                simp only [Act.put, List.setIfInBounds_toArray, List.set_cons_zero, List.set_cons_succ]
                refine onlySkip 9 rfl rfl (by kernel_rfl) rfl (exec_store rfl rfl rfl hst4) (.inl (by kernel_rfl)) ?_
                refine done (by kernel_rfl) ?_ _
                clear hU0 hU1 hU2 hbs ha4 hst4 hb4 hc4 hf4
                generalize W4.setCell ⟨w5.heap.size, 4, none⟩ (.slice p4 n4 c4) = W5 at *
                go_wp2
                have hV3 := hV4.keep ((Below.refl _ _).drew)
                have hb3 : Below w.heap.size w W5.drew := HB5.out.below.trans (hV3.below.mono HB5.out.below.size)
                have hU0 : M17 w5.heap.size bl (ol + b * 6) #[.int .i64 5, .bool false, .int .i64 0, .string ⟨#[]⟩, .slice p4 n4 c4, .slice pl' nl' cl'] (.int .i64 v0.kind) (.bool v0.b) (.int .i64 v0.n) (.string (strB v0.text)) (.slice pk1 v0.keys.length ck1) (.slice pl1 v0.list.length cl1) W5.drew := ⟨hV3.box, belowCell hb3 hlz HA6.out.1, belowCell hb3 hlz HA6.out.2.1, belowCell hb3 hlz HA6.out.2.2.1, belowCell hb3 hlz HA6.out.2.2.2.1, belowCell hb3 hlz HA6.out.2.2.2.2.1, belowCell hb3 hlz HA6.out.2.2.2.2.2⟩
                refine plain_region_draws (fun W => M17 w5.heap.size bl (ol + b * 6) #[.int .i64 5, .bool false, .int .i64 0, .string ⟨#[]⟩, .slice p4 n4 c4, .slice pl' nl' cl'] (.int .i64 v0.kind) (.bool v0.b) (.int .i64 v0.n) (.string (strB v0.text)) (.slice pk1 v0.keys.length ck1) (.slice pl1 v0.list.length cl1) W) (by kernel_rfl) hU0 (fun hU0 => ?_)
                generalize W5.drew = W6 at *
                refine take 0 68 (v := .pointer (some ⟨w5.heap.size, 5, none⟩)) rfl rfl (by kernel_rfl) (by kernel_rfl) (by kernel_rfl) rfl (fun W hW => exec_fieldAddr rfl rfl (fa_value _ _ (by decide) W)) (by assumption) ?_
                simp only [Act.put, List.setIfInBounds_toArray, List.set_cons_zero, List.set_cons_succ]
                refine take 1 69 (v := .slice pl' nl' cl') rfl rfl (by kernel_rfl) (by kernel_rfl) (by kernel_rfl) rfl (fun W hW => exec_load rfl rfl (run_load1 (w := W) Tryz.underlying24 rfl (cellOf hW.val rfl))) (by assumption) ?_
                simp only [Act.put, List.setIfInBounds_toArray, List.set_cons_zero, List.set_cons_succ]
                refine take 2 70 (v := .slice (some ⟨bl, ol, none⟩) ks.length cl) rfl rfl (by kernel_rfl) (by kernel_rfl) (by kernel_rfl) rfl (fun W hW => exec_move rfl rfl) (by assumption) ?_
                simp only [Act.put, List.setIfInBounds_toArray, List.set_cons_zero, List.set_cons_succ]
                refine take 3 71 (v := .int .i64 (b : Int)) rfl rfl (by kernel_rfl) (by kernel_rfl) (by kernel_rfl) rfl (fun W hW => exec_move rfl rfl) (by assumption) ?_
                simp only [Act.put, List.setIfInBounds_toArray, List.set_cons_zero, List.set_cons_succ]
                refine take 4 72 (v := .pointer (some ⟨bl, ol + b * 6, none⟩)) rfl rfl (by kernel_rfl) (by kernel_rfl) (by kernel_rfl) rfl (fun W hW => exec_indexAddr rfl rfl rfl (ia_vals _ _ _ _ _ hbn W)) (by assumption) ?_
                simp only [Act.put, List.setIfInBounds_toArray, List.set_cons_zero, List.set_cons_succ]
                refine take 5 73 (v := .agg #[.int .i64 v0.kind, .bool v0.b, .int .i64 v0.n, .string (strB v0.text), .slice pk1 v0.keys.length ck1, .slice pl1 v0.list.length cl1]) rfl rfl (by kernel_rfl) (by kernel_rfl) (by kernel_rfl) rfl (fun W hW => exec_load rfl rfl (get_six hW.c0 hW.c1 hW.c2 hW.c3 hW.c4 hW.c5)) (by assumption) ?_
                simp only [Act.put, List.setIfInBounds_toArray, List.set_cons_zero, List.set_cons_succ]
                refine onlyCall 6 74 rfl rfl (by kernel_rfl) rfl (exec_call [.agg #[.int .i64 v0.kind, .bool v0.b, .int .i64 v0.n, .string (strB v0.text), .slice pk1 v0.keys.length ck1, .slice pl1 v0.list.length cl1]] rfl rfl Tryz.func51 (by kernel_rfl) (by kernel_rfl)) ?_
                refine (HC.out.1 _ _ (HC.out.2.below hb3)).mono ?_
                rintro e w8 ⟨x8, rfl, hx8, hb8⟩
                obtain ⟨vk0, vl0, rfl, _⟩ := hx8.open
                obtain ⟨p9, n9, c9, W9, ha9, hb9, hc9, hf9, hV9⟩ := MapV.val hV3 hb8 hx8 hL8 24
                have hU8 := hU0.keep hb8 (Array.getElem?_eq_some_iff.1 hU0.val).1 (ltOf hU0.c0)
                have hU9 := hU8.keep (below_new (.cells #[.int .i64 v0.kind, .bool v0.b, .int .i64 v0.n, .string (strB v0.text), vk0, vl0] 26)) (Array.getElem?_eq_some_iff.1 hU8.val).1 (ltOf hU8.c0)
                have hU10 := hU0.keep hb9 (Nat.lt_succ_self _) (by omega)
                have hst9 := put_vals (p := p9) (n := n9) (c := c9) hc9 hf9
                have hbs9 : (Instr.buildSlice 24 1 #[(0, .agg #[.int .i64 v0.kind, .bool v0.b, .int .i64 v0.n, .string (strB v0.text), vk0, vl0])]).run Tryz.prog w8 = .ok (.slice (some ⟨w8.heap.size, 0, none⟩) 1 1) (w8.alloc (.cells #[.int .i64 v0.kind, .bool v0.b, .int .i64 v0.n, .string (strB v0.text), vk0, vl0] 26)) := build_val w8 hx8
                refine ⟨_, rfl, .inr hU8, ?_⟩
                simp only [Act.put, List.setIfInBounds_toArray, List.set_cons_zero, List.set_cons_succ]
                refine onlyRun 7 75 (v := .slice (some ⟨w8.heap.size, 0, none⟩) 1 1) rfl rfl (by kernel_rfl) rfl (exec_buildSlice1 rfl rfl hbs9) (.inr hU9) ?_
                simp only [Act.put, List.setIfInBounds_toArray, List.set_cons_zero, List.set_cons_succ]
                refine onlyRun 8 76 (v := .slice p9 n9 c9) rfl rfl (by kernel_rfl) rfl (exec_append rfl rfl rfl ha9) (.inr hU10) ?_
                simp only [Act.put, List.setIfInBounds_toArray, List.set_cons_zero, List.set_cons_succ]
                refine take 9 77 (v := .pointer (some ⟨w5.heap.size, 5, none⟩)) rfl rfl (by kernel_rfl) (by kernel_rfl) (by kernel_rfl) rfl (fun W hW => exec_fieldAddr rfl rfl (fa_value _ _ (by decide) W)) (by assumption) ?_
                simp only [Act.put, List.setIfInBounds_toArray, List.set_cons_zero, List.set_cons_succ]
                refine onlySkip 10 rfl rfl (by kernel_rfl) rfl (exec_store rfl rfl rfl hst9) (.inl (by kernel_rfl)) ?_
                refine done (by kernel_rfl) ?_ _
                clear hU0 hU8 hU9 hU10 hbs9 ha9 hst9 hb9 hc9 hf9 hb8 hx8 hb3 hV0 hV4
                generalize W9.setCell ⟨w5.heap.size, 5, none⟩ (.slice p9 n9 c9) = W10 at *
                have HE1 := Lib.hid (show MapJ w5 W10 ks l q (j + 1) from ⟨p4, n4, c4, p9, n9, c9, by rw [take_map _ HX.out.1, take_map _ HX.out.1, HX.out.2.1, HX.out.2.2.1]; exact hV9, HRI.out⟩)
                clear hV hR hbw hbx k1 hL9 hL8 hw5 hkz hlz hV3 hV9 hbd hlt5
                go_wp2
                go_roundw
                case rel => exact ⟨j + 1, hlt1, by go_num, HE1⟩
                case measure => simp [intOf]; omega
          · obtain rfl : j = ks.length := by omega
            obtain ⟨pk', nk', ck', pl', nl', cl', hV, hR⟩ := HJ.out
            rw [List.take_of_length_le (by rw [HQ.out.len]; exact Nat.le_refl _)] at hV hR
            have hB := HB5.out.keep hV.below (by have := HB5.out.lt; omega)
            obtain ⟨W', s1, s2, s3, s4⟩ := hB.put (hV.own.imp (P' := fun b => w.heap.size + 2 ≤ b) fun b _ hb => by have := HB5.out.lt; omega)
            have HLD := Lib.hid (get_val hV.box)
            have HS := Lib.hid s1
            have HL2 := Lib.hid s2
            have HF := Lib.hid (And.intro s3 (And.intro s4 hR))
            clear hV hR hB s1 s2 s3 s4 HJ
            go_wp2_with (first
              | (refine wpList_load rfl _ _ _ rfl rfl HLD.out ?_)
              | (refine wpList_store rfl _ _ _ _ rfl rfl rfl HS.out ?_))
            exact bodyPost_ret (results_cell_tmp rfl _ _ ⟨w.heap.size + 1, 0, none⟩ _ (.int .i64 0) rfl rfl HL2.out) rfl (HA.out 0 _ W' _ HF.out.2.1 HF.out.1 (.inr ⟨rfl, q, HQ.out.perm, rfl, HF.out.2.2⟩))
  · have hA : ∀ (W : World) (x : Array Value), Below w.heap.size w W → VOwn W (fun b => w.heap.size ≤ b) V0 x → MapOk w ks l (.returned (.tuple #[.agg x, .int .i64 2])) W :=
      fun W x h1 h2 => ⟨h1, x, 2, V0, rfl, h2, .inl ⟨rfl, rfl, .inl he⟩⟩
    generalize MapOk w ks l = Q at *
    obtain ⟨W', s1, s2, s3, s4⟩ := hT.put (own_zero _ _)
    have HA := Lib.hid hA
    have HS := Lib.hid s1
    have HL2 := Lib.hid s2
    have HF := Lib.hid (And.intro s3 s4)
    have hne : ¬ (ks.length : Int) = (l.length : Int) := by omega
    clear hA hT hk hl s1 s2 s3 s4
    go_enter Tryz.func36, Tryz.ntmps36
    go_wp2_with (first
      | (refine wpList_store rfl _ _ _ _ rfl rfl rfl HS.out ?_))
    exact bodyPost_ret (results_cell_tmp rfl _ _ ⟨w.heap.size + 1, 0, none⟩ _ (.int .i64 2) rfl rfl HL2.out) rfl (HA.out W' _ HF.out.2 HF.out.1)
end Go.Proofs.YtnkaegdnjfpliaaGreatDoor

/-! What the law's works meets: two maps. -/
namespace Go.Proofs.YtnkaegdnjfpliaaGreatDoor
set_option linter.unusedSimpArgs false
set_option linter.unusedVariables false
open Go.RowKit

/-- The map that is made. -/
def VM : V := .mk 5 false 0 [] [[97, 32, 98], [98]] [.mk 4 false 0 [] [] [.mk 0 false 0 [] [] [], .mk 1 true 0 [] [] []], .mk 2 false 2 [] [] []]
def VA : V := .mk 3 false 0 [97] [] []
theorem okM : okV VM = true := by kernel_rfl
theorem textM : textF VM = ([123, 96, 97, 32, 98, 96, 58, 32, 91, 110, 117, 108, 108, 44, 32, 116, 114, 117, 101, 93, 44, 32, 98, 58, 32, 50, 125], 0) := by kernel_rfl
theorem cmpMA : (if okV VM && okV VA then cmpV VM VA else 0) = -1 := by kernel_rfl
theorem eqMM : (if okV VM && okV VM then eqV VM VM else 1) = 1 := by kernel_rfl
theorem less12 : lessV (.mk 2 false 1 [] [] []) (.mk 2 false 2 [] [] []) = 2 := by kernel_rfl
theorem sameMM : (okV VM && okV VM && decide (cmpV VM VM = 0)) = true := by kernel_rfl
theorem totM : totV VM ≤ 1000 := by decide +kernel
theorem perm_two {q : List Nat} (h : q.Perm (List.range 2)) : q = [0, 1] ∨ q = [1, 0] := by
  have hl : q.length = 2 := by simpa using h.length_eq
  have hn : q.Nodup := h.nodup_iff.2 List.nodup_range
  have hm : ∀ a ∈ q, a < 2 := fun a ha => by simpa using (h.mem_iff.1 ha)
  match q, hl with
  | [a, b], _ =>
    have h1 := hm a (by simp)
    have h2 := hm b (by simp)
    have h3 : a ≠ b := by intro e; subst e; simp at hn
    have : (a = 0 ∧ b = 1) ∨ (a = 1 ∧ b = 0) := by omega
    rcases this with ⟨rfl, rfl⟩ | ⟨rfl, rfl⟩
    · exact .inl rfl
    · exact .inr rfl
def LM : List V := [.mk 2 false 2 [] [] [], .mk 4 false 0 [] [] [.mk 0 false 0 [] [] [], .mk 1 true 0 [] [] []]]
def L0 : List V := [.mk 0 false 0 [] [] [], .mk 0 false 0 [] [] []]
theorem map_one {w : World} {e : Ending} {w' : World} (h : MapOk w [[98], [97, 32, 98]] LM e w') :
    Below w.heap.size w w' ∧ ∃ x, e = .returned (.tuple #[.agg x, .int .i64 0]) ∧ VRd w' VM x := by
  obtain ⟨hb, x, no, v, rfl, hx, hc⟩ := h
  refine ⟨hb, x, ?_⟩
  rcases hc with ⟨_, _, hc⟩ | ⟨rfl, _, q, hq, rfl, hr⟩
  · exact absurd hc (by simp [LM])
  · rcases perm_two hq with rfl | rfl
    · exact absurd hr (by decide)
    · exact ⟨rfl, hx.rd (by simp [totV, totVs, LM])⟩
theorem map_two {w : World} {e : Ending} {w' : World} (h : MapOk w [[97], [97]] L0 e w') :
    Below w.heap.size w w' ∧ ∃ p0 n0 c0 p1 n1 c1 k b n t, e = .returned (.tuple #[.agg #[.int .i64 k, .bool b, .int .i64 n, .string t, .slice p0 n0 c0, .slice p1 n1 c1], .int .i64 2]) := by
  obtain ⟨hb, x, no, v, rfl, hx, hc⟩ := h
  refine ⟨hb, ?_⟩
  rcases hc with ⟨rfl, rfl, hc⟩ | ⟨rfl, _, q, hq, rfl, hr⟩
  · obtain ⟨pk, ck, pl, cl, rfl, _⟩ := (hx.rd (by simp [V0, totV, totVs])).open
    exact ⟨_, _, _, _, _, _, _, _, _, _, rfl⟩
  · rcases perm_two hq with rfl | rfl
    · exact absurd hr (by decide)
    · exact absurd hr (by decide)
theorem call_one (W : World) (p1 p2 : Option Addr) (c1 c2 : Nat) (h1 : RdS W p1 c1 [[98], [97, 32, 98]]) (h2 : LRd W p2 c2 LM) :
    Calls Tryz.prog 36 #[.slice p1 2 c1, .slice p2 2 c2] W fun e w' => Below W.heap.size W w' ∧ ∃ x, e = .returned (.tuple #[.agg x, .int .i64 0]) ∧ VRd w' VM x :=
  (map_any (ks := [[98], [97, 32, 98]]) (l := LM) h1 h2 (by simp) (by simp [totV, totVs, LM])).mono fun _ _ h => map_one h
theorem call_two (W : World) (p1 p2 : Option Addr) (c1 c2 : Nat) (h1 : RdS W p1 c1 [[97], [97]]) (h2 : LRd W p2 c2 L0) :
    Calls Tryz.prog 36 #[.slice p1 2 c1, .slice p2 2 c2] W fun e w' => Below W.heap.size W w' ∧ ∃ p0 n0 c0 p1 n1 c1 k b n t, e = .returned (.tuple #[.agg #[.int .i64 k, .bool b, .int .i64 n, .string t, .slice p0 n0 c0, .slice p1 n1 c1], .int .i64 2]) :=
  (map_any (ks := [[97], [97]]) (l := L0) h1 h2 (by simp) (by simp [totV, totVs, L0])).mono fun _ _ h => map_two h
theorem RdS.two {W : World} {g : Nat} {a b : List UInt8} (h : W.heap[g]? = some (.cells #[.string (strB a), .string (strB b)] 9 (0, 0))) (ha : a.length ≤ 1000) (hb : b.length ≤ 1000) : RdS W (some ⟨g, 0, none⟩) 2 [a, b] := by
  refine ⟨Nat.le_refl _, (by simp), (fun e => by cases e), fun s hs => ?_, fun ad had => ?_⟩
  · simp only [List.mem_cons, List.not_mem_nil, or_false] at hs
    rcases hs with rfl | rfl <;> omega
  · cases had
    refine ⟨fun _ => rfl, fun i s hs => ?_⟩
    match i, hs with
    | 0, hs => cases hs; exact cellOf (o := 0) h rfl
    | 1, hs => cases hs; exact cellOf (o := 1) h rfl
    | i + 2, hs => simp at hs
end Go.Proofs.YtnkaegdnjfpliaaGreatDoor

/-! The law's works: a map is made, told, and held against another one. Printed by gen_work.py. -/
namespace Go.Proofs.YtnkaegdnjfpliaaGreatDoor
set_option linter.unusedSimpArgs false
set_option linter.unusedVariables false
open Go.RowKit

/-- What lies in the box while it works. -/
structure WorkB (w : World) (g : Nat) (x : Array Value) (W : World) : Prop where
  box : W.heap[g]? = some (.cells x 26 (0, 0))
  rd : VRd W VM x
  below : Below w.heap.size w W
theorem WorkB.keep {w W W' : World} {g : Nat} {x : Array Value} (h : WorkB w g x W) (hb : Below W.heap.size W W') : WorkB w g x W' :=
  ⟨belowBlk hb (Array.getElem?_eq_some_iff.1 h.box).1 h.box, h.rd.below hb, below_trans h.below hb⟩
theorem cmp_call {w W : World} {g : Nat} {x : Array Value} (hE : Env w) (h : WorkB w g x W) : Calls Tryz.prog 20 #[.agg x, .agg (flatX 3 false 0 [97])] W fun e w' => e = .returned (.int .i64 (-1)) ∧ WorkB w g x w' :=
  (comparePub_any (a := VM) (b := VA) (hE.b h.below) h.rd (flatX_rd W 3 false 0 [97] (by simp)) (by simp [VM, VA, totV, totVs])).mono fun e w' h' => by
    rw [cmpMA] at h'
    exact ⟨h'.1, h.keep h'.2⟩
theorem eq_call {w W : World} {g : Nat} {x : Array Value} (hE : Env w) (h : WorkB w g x W) : Calls Tryz.prog 25 #[.agg x, .agg x] W fun e w' => e = .returned (.int .i64 1) ∧ WorkB w g x w' :=
  (equalPub_any (a := VM) (b := VM) (hE.b h.below) h.rd h.rd (by simp [VM, totV, totVs])).mono fun e w' h' => by
    rw [eqMM] at h'
    exact ⟨h'.1, h.keep h'.2⟩
theorem less_call {w W : World} {g : Nat} {x : Array Value} (hE : Env w) (h : WorkB w g x W) : Calls Tryz.prog 26 #[.agg (flatX 2 false 1 []), .agg (flatX 2 false 2 [])] W fun e w' => e = .returned (.int .i64 2) ∧ WorkB w g x w' :=
  (less_any (a := .mk 2 false 1 [] [] []) (b := .mk 2 false 2 [] [] []) (hE.b h.below) (flatX_rd W 2 false 1 [] (by simp)) (flatX_rd W 2 false 2 [] (by simp)) (by simp [totV, totVs])).mono fun e w' h' => by
    rw [less12] at h'
    exact ⟨h'.1, h.keep h'.2⟩
theorem copy_call {w W : World} {g : Nat} {x : Array Value} (h : WorkB w g x W) : Calls Tryz.prog 51 #[.agg x] W fun e w' => ∃ y, e = .returned (.agg y) ∧ VRd w' VM y ∧ WorkB w g x w' :=
  (copy_any VM (Nat.le_trans totM (by decide)) W x h.rd).mono fun e w' ⟨y, he, hy, hb⟩ => ⟨y, he, hy.rd (Nat.le_trans totM (by decide)), h.keep hb⟩
theorem same_call {w W : World} {g : Nat} {x y : Array Value} (hE : Env w) (h : WorkB w g x W) (hy : VRd W VM y) : Calls Tryz.prog 21 #[.agg x, .agg y] W fun e w' => e = .returned (.bool true) ∧ WorkB w g x w' :=
  (same_any (a := VM) (b := VM) (hE.b h.below) h.rd hy (by simp [VM, totV, totVs])).mono fun e w' h' => by
    rw [sameMM] at h'
    exact ⟨h'.1, h.keep h'.2⟩
set_option maxRecDepth 100000 in
set_option maxHeartbeats 1000000 in
theorem works_any {w : World} (hE : Env w) : Calls Tryz.prog 16 #[] w fun e w' => e = .returned (.bool true) ∧ Below w.heap.size w w' := by
  have hA0 := below_new (w := w) (.cells #[.string (strB [98]), .string (strB [97, 32, 98])] 9)
  have hk0 := RdS.two (heap_alloc_new w (.cells #[.string (strB [98]), .string (strB [97, 32, 98])] 9)) (by decide) (by decide)
  have H0 := Lib.hid (And.intro hA0 hk0)
  have HM1 := Lib.hid call_one
  have HM2 := Lib.hid call_two
  have HE := Lib.hid hE
  clear hA0 hk0 hE
  go_enter Tryz.func16, Tryz.ntmps16
  go_wp2_with (first
    | (go_at_call 43
       (
         refine (int_any 2 _).mono ?_
         rintro e w1 ⟨rfl, hb⟩
         have H1 := Lib.hid (And.intro (H0.out.2.below hb) (And.intro (below_trans H0.out.1 hb) (flatX_rd w1 2 false 2 [] (by simp))))
         unfold flatX at *
         clear hb H0))
    | (go_at_call 41
       (
         refine (null_any _).mono ?_
         rintro e w2 ⟨rfl, hb⟩
         have H2 := Lib.hid (And.intro (H1.out.1.below hb) (And.intro (below_trans H1.out.2.1 hb) (H1.out.2.2.below hb)))
         unfold flatX
         clear hb H1))
    | (go_at_call 42
       (
         refine (bool_any true _).mono ?_
         rintro e w3 ⟨rfl, hb⟩
         have H3 := Lib.hid (And.intro (H2.out.1.below hb) (And.intro (below_trans H2.out.2.1 hb) (H2.out.2.2.below hb)))
         unfold flatX
         clear hb H2))
    | (go_at_call 38
       (
         have hl := LRd.two (heap_alloc_new w3 _) (flatX_rd (w3.alloc (.cells #[.int .i64 0, .bool false, .int .i64 0, .string (strB []), .slice none 0 0, .slice none 0 0, .int .i64 1, .bool true, .int .i64 0, .string (strB []), .slice none 0 0, .slice none 0 0] 26)) 0 false 0 [] (by simp)) (flatX_rd _ 1 true 0 [] (by simp))
         refine (list_any hl (by simp [totV, totVs])).mono ?_
         rintro e w4 ⟨x, rfl, hx, hb⟩
         have hb4 := below_trans (below_new _) hb
         have hx4 := hx.rd (by simp [totV, totVs])
         have hx5 := hx4
         obtain ⟨pk, ck, pl, cl, rfl, _⟩ := hx4.open
         simp only [V.kind, V.b, V.n, V.text, V.keys, V.list] at *
         have H4 := Lib.hid (And.intro (H3.out.1.below hb4) (And.intro (below_trans H3.out.2.1 hb4) (And.intro (H3.out.2.2.below hb4) hx5)))
         clear hb hb4 hx hx4 hx5 hl H3))
    | (go_at_call 36
       (
         have hb5 := below_new (w := w4) (.cells #[.int .i64 2, .bool false, .int .i64 2, .string (strB []), .slice none 0 0, .slice none 0 0, .int .i64 4, .bool false, .int .i64 0, .string (strB []), .slice pk 0 ck, .slice pl 2 cl] 26)
         refine (HM1.out _ _ _ _ _ (H4.out.1.below hb5) (LRd.two (heap_alloc_new w4 _) (H4.out.2.2.1.below hb5) (H4.out.2.2.2.below hb5))).mono ?_
         rintro e w6 ⟨hb, x, rfl, hx⟩
         have hb6 := below_trans (below_trans H4.out.2.1 hb5) hb
         have hx6 := hx
         obtain ⟨pk6, ck6, pl6, cl6, rfl, _⟩ := hx.open
         have HW := Lib.hid (show WorkB w w6.heap.size _ _ from ⟨heap_alloc_new w6 _, hx6.below (below_new (.cells _ 26)), below_trans hb6 (below_new _)⟩)
         have HL := Lib.hid (get_val HW.out.box)
         clear hb hb5 hb6 hx hx6 HM1 H4))
    | (go_at_call 27
       (
         refine (text_any (HE.out.b HW.out.below) HW.out.rd (by simp [VM, rngV, rngVs]) (Nat.le_trans totM (by decide))).mono ?_
         rintro e w7 ⟨rfl, hb⟩
         rw [textM]
         have HW7 := Lib.hid (HW.out.keep hb)
         clear hb HL HW))
    | (go_at_call 36
       (
         have hb8 := below_new (w := w7) (.cells #[.string (strB [97]), .string (strB [97])] 9)
         have hb9 := below_new (w := w7.alloc (.cells #[.string (strB [97]), .string (strB [97])] 9)) (.cells #[.int .i64 0, .bool false, .int .i64 0, .string (strB []), .slice none 0 0, .slice none 0 0, .int .i64 0, .bool false, .int .i64 0, .string (strB []), .slice none 0 0, .slice none 0 0] 26)
         have hk := (RdS.two (heap_alloc_new w7 (.cells #[.string (strB [97]), .string (strB [97])] 9)) (by decide) (by decide)).below hb9
         have hl := LRd.two (heap_alloc_new (w7.alloc (.cells #[.string (strB [97]), .string (strB [97])] 9)) (.cells #[.int .i64 0, .bool false, .int .i64 0, .string (strB []), .slice none 0 0, .slice none 0 0, .int .i64 0, .bool false, .int .i64 0, .string (strB []), .slice none 0 0, .slice none 0 0] 26)) (flatX_rd _ 0 false 0 [] (by simp)) (flatX_rd _ 0 false 0 [] (by simp))
         rw [World.size_alloc] at hl
         refine (HM2.out _ _ _ _ _ hk hl).mono ?_
         rintro e w10 ⟨hb, p0, n0, c0, p1, n1, c1, k, b, n, t, rfl⟩
         have HW10 := Lib.hid (((HW7.out.keep (below_trans (below_trans hb8 hb9) hb)).keep (below_new (.cells #[.int .i64 k, .bool b, .int .i64 n, .string t, .slice p0 n0 c0, .slice p1 n1 c1] 26))))
         clear hb hb8 hb9 hk hl HW7 HM2))
    | (refine wpList_load rfl _ _ _ rfl rfl HL.out ?_))
  generalize w10.alloc _ = W at *
  have hU : WorkB w w6.heap.size #[.int .i64 VM.kind, .bool VM.b, .int .i64 VM.n, .string (strB VM.text), .slice pk6 VM.keys.length ck6, .slice pl6 VM.list.length cl6] W.drew := HW10.out.keep (Below.refl _ _).drew
  have e1 : ∀ W : World, (binOp .add 3 (.int .i64 0) (.int .i64 0)).run Tryz.prog W = .ok (.int .i64 0) W := fun W => by simp [go_sem, IntKind.wrap, IntKind.signed, IntKind.bits]
  have e2 : ∀ W : World, (binOp .eql 3 (.int .i64 0) (.int .i64 0)).run Tryz.prog W = .ok (.bool true) W := fun W => by simp [go_sem]
  have e3 : ∀ W : World, (binOp .eql 9 (.string (strB [123, 96, 97, 32, 98, 96, 58, 32, 91, 110, 117, 108, 108, 44, 32, 116, 114, 117, 101, 93, 44, 32, 98, 58, 32, 50, 125])) (.string (strB [123, 96, 97, 32, 98, 96, 58, 32, 91, 110, 117, 108, 108, 44, 32, 116, 114, 117, 101, 93, 44, 32, 98, 58, 32, 50, 125]))).run Tryz.prog W = .ok (.bool true) W := fun W => by simp [go_sem]
  have e4 : ∀ W : World, (binOp .eql 3 (.int .i64 2) (.int .i64 2)).run Tryz.prog W = .ok (.bool true) W := fun W => by simp [go_sem]
  have e5 : ∀ W : World, (binOp .eql 3 (.int .i64 (-1)) (.int .i64 (-1))).run Tryz.prog W = .ok (.bool true) W := fun W => by simp [go_sem]
  have e6 : ∀ W : World, (binOp .eql 32 (.int .i64 1) (.int .i64 1)).run Tryz.prog W = .ok (.bool true) W := fun W => by simp [go_sem]
  have e7 : ∀ W : World, (binOp .eql 32 (.int .i64 2) (.int .i64 2)).run Tryz.prog W = .ok (.bool true) W := fun W => by simp [go_sem]
  clear HW10
  refine plain_region_draws (fun W => WorkB w w6.heap.size #[.int .i64 VM.kind, .bool VM.b, .int .i64 VM.n, .string (strB VM.text), .slice pk6 VM.keys.length ck6, .slice pl6 VM.list.length cl6] W) (by kernel_rfl) hU (fun hU => ?_)
  generalize W.drew = W0 at *
  refine take 0 31 (v := .int .i64 0) rfl rfl (by kernel_rfl) (by kernel_rfl) (by kernel_rfl) rfl (fun W hW => exec_move rfl rfl) (by assumption) ?_
  simp only [Act.put, List.setIfInBounds_toArray, List.set_cons_zero, List.set_cons_succ]
  refine take 2 33 (v := .int .i64 0) rfl rfl (by kernel_rfl) (by kernel_rfl) (by kernel_rfl) rfl (fun W hW => exec_move rfl rfl) (by assumption) ?_
  simp only [Act.put, List.setIfInBounds_toArray, List.set_cons_zero, List.set_cons_succ]
  refine onlyCall 1 32 rfl rfl (by kernel_rfl) rfl (exec_call [.int .i64 0] rfl rfl Tryz.func33 (by kernel_rfl) (by kernel_rfl)) ?_
  refine (num_any 0 _).mono ?_
  rintro e w' ⟨rfl, rfl⟩
  refine ⟨_, rfl, .inr (by assumption), ?_⟩
  simp only [Act.put, List.setIfInBounds_toArray, List.set_cons_zero, List.set_cons_succ]
  refine onlyCall 3 34 rfl rfl (by kernel_rfl) rfl (exec_call [.int .i64 0] rfl rfl Tryz.func33 (by kernel_rfl) (by kernel_rfl)) ?_
  refine (num_any 0 _).mono ?_
  rintro e w' ⟨rfl, rfl⟩
  refine ⟨_, rfl, .inr (by assumption), ?_⟩
  simp only [Act.put, List.setIfInBounds_toArray, List.set_cons_zero, List.set_cons_succ]
  refine take 4 35 (v := .int .i64 0) rfl rfl (by kernel_rfl) (by kernel_rfl) (by kernel_rfl) rfl (fun W hW => exec_bini rfl rfl rfl (e1 W)) (by assumption) ?_
  simp only [Act.put, List.setIfInBounds_toArray, List.set_cons_zero, List.set_cons_succ]
  refine take 5 36 (v := .bool true) rfl rfl (by kernel_rfl) (by kernel_rfl) (by kernel_rfl) rfl (fun W hW => exec_bini rfl rfl rfl (e2 W)) (by assumption) ?_
  simp only [Act.put, List.setIfInBounds_toArray, List.set_cons_zero, List.set_cons_succ]
  refine take 6 37 (v := .bool true) rfl rfl (by kernel_rfl) (by kernel_rfl) (by kernel_rfl) rfl (fun W hW => exec_move rfl rfl) (by assumption) ?_
  simp only [Act.put, List.setIfInBounds_toArray, List.set_cons_zero, List.set_cons_succ]
  refine take 7 38 (v := .string (strB [123, 96, 97, 32, 98, 96, 58, 32, 91, 110, 117, 108, 108, 44, 32, 116, 114, 117, 101, 93, 44, 32, 98, 58, 32, 50, 125])) rfl rfl (by kernel_rfl) (by kernel_rfl) (by kernel_rfl) rfl (fun W hW => exec_move rfl rfl) (by assumption) ?_
  simp only [Act.put, List.setIfInBounds_toArray, List.set_cons_zero, List.set_cons_succ]
  refine take 8 39 (v := .bool true) rfl rfl (by kernel_rfl) (by kernel_rfl) (by kernel_rfl) rfl (fun W hW => exec_bins rfl rfl rfl (e3 W)) (by assumption) ?_
  simp only [Act.put, List.setIfInBounds_toArray, List.set_cons_zero, List.set_cons_succ]
  refine take 9 40 (v := .bool true) rfl rfl (by kernel_rfl) (by kernel_rfl) (by kernel_rfl) rfl (fun W hW => rfl) (by assumption) ?_
  simp only [Act.put, List.setIfInBounds_toArray, List.set_cons_zero, List.set_cons_succ]
  refine take 10 41 (v := .bool true) rfl rfl (by kernel_rfl) (by kernel_rfl) (by kernel_rfl) rfl (fun W hW => exec_move rfl rfl) (by assumption) ?_
  simp only [Act.put, List.setIfInBounds_toArray, List.set_cons_zero, List.set_cons_succ]
  refine take 11 42 (v := .int .i64 2) rfl rfl (by kernel_rfl) (by kernel_rfl) (by kernel_rfl) rfl (fun W hW => exec_move rfl rfl) (by assumption) ?_
  simp only [Act.put, List.setIfInBounds_toArray, List.set_cons_zero, List.set_cons_succ]
  refine onlyCall 12 43 rfl rfl (by kernel_rfl) rfl (exec_call [.int .i64 2] rfl rfl Tryz.func33 (by kernel_rfl) (by kernel_rfl)) ?_
  refine (num_any 2 _).mono ?_
  rintro e w' ⟨rfl, rfl⟩
  refine ⟨_, rfl, .inr (by assumption), ?_⟩
  simp only [Act.put, List.setIfInBounds_toArray, List.set_cons_zero, List.set_cons_succ]
  refine take 13 44 (v := .bool true) rfl rfl (by kernel_rfl) (by kernel_rfl) (by kernel_rfl) rfl (fun W hW => exec_bini rfl rfl rfl (e4 W)) (by assumption) ?_
  simp only [Act.put, List.setIfInBounds_toArray, List.set_cons_zero, List.set_cons_succ]
  refine take 14 45 (v := .bool true) rfl rfl (by kernel_rfl) (by kernel_rfl) (by kernel_rfl) rfl (fun W hW => rfl) (by assumption) ?_
  simp only [Act.put, List.setIfInBounds_toArray, List.set_cons_zero, List.set_cons_succ]
  refine take 15 46 (v := .bool true) rfl rfl (by kernel_rfl) (by kernel_rfl) (by kernel_rfl) rfl (fun W hW => exec_move rfl rfl) (by assumption) ?_
  simp only [Act.put, List.setIfInBounds_toArray, List.set_cons_zero, List.set_cons_succ]
  refine take 16 47 (v := .agg #[.int .i64 VM.kind, .bool VM.b, .int .i64 VM.n, .string (strB VM.text), .slice pk6 VM.keys.length ck6, .slice pl6 VM.list.length cl6]) rfl rfl (by kernel_rfl) (by kernel_rfl) (by kernel_rfl) rfl (fun W hW => exec_load rfl rfl (get_val hW.box)) (by assumption) ?_
  simp only [Act.put, List.setIfInBounds_toArray, List.set_cons_zero, List.set_cons_succ]
  refine onlyCall 17 48 rfl rfl (by kernel_rfl) rfl (exec_call [.string (strB [97])] rfl rfl Tryz.func44 (by kernel_rfl) (by kernel_rfl)) ?_
  refine (string_any [97] _).mono ?_
  rintro e w' ⟨rfl, hb⟩
  have hU := hU.keep hb
  clear hb
  refine ⟨_, rfl, .inr (by assumption), ?_⟩
  simp only [Act.put, List.setIfInBounds_toArray, List.set_cons_zero, List.set_cons_succ]
  refine onlyCall 18 49 rfl rfl (by kernel_rfl) rfl (exec_call [.agg #[.int .i64 VM.kind, .bool VM.b, .int .i64 VM.n, .string (strB VM.text), .slice pk6 VM.keys.length ck6, .slice pl6 VM.list.length cl6], .agg (flatX 3 false 0 [97])] rfl rfl Tryz.func20 (by kernel_rfl) (by kernel_rfl)) ?_
  refine (cmp_call HE.out hU).mono ?_
  rintro e w' ⟨rfl, hU⟩
  refine ⟨_, rfl, .inr (by assumption), ?_⟩
  simp only [Act.put, List.setIfInBounds_toArray, List.set_cons_zero, List.set_cons_succ]
  refine take 19 50 (v := .bool true) rfl rfl (by kernel_rfl) (by kernel_rfl) (by kernel_rfl) rfl (fun W hW => exec_bini rfl rfl rfl (e5 W)) (by assumption) ?_
  simp only [Act.put, List.setIfInBounds_toArray, List.set_cons_zero, List.set_cons_succ]
  refine take 20 51 (v := .bool true) rfl rfl (by kernel_rfl) (by kernel_rfl) (by kernel_rfl) rfl (fun W hW => rfl) (by assumption) ?_
  simp only [Act.put, List.setIfInBounds_toArray, List.set_cons_zero, List.set_cons_succ]
  refine take 21 52 (v := .bool true) rfl rfl (by kernel_rfl) (by kernel_rfl) (by kernel_rfl) rfl (fun W hW => exec_move rfl rfl) (by assumption) ?_
  simp only [Act.put, List.setIfInBounds_toArray, List.set_cons_zero, List.set_cons_succ]
  refine take 22 53 (v := .agg #[.int .i64 VM.kind, .bool VM.b, .int .i64 VM.n, .string (strB VM.text), .slice pk6 VM.keys.length ck6, .slice pl6 VM.list.length cl6]) rfl rfl (by kernel_rfl) (by kernel_rfl) (by kernel_rfl) rfl (fun W hW => exec_load rfl rfl (get_val hW.box)) (by assumption) ?_
  simp only [Act.put, List.setIfInBounds_toArray, List.set_cons_zero, List.set_cons_succ]
  refine take 23 54 (v := .agg #[.int .i64 VM.kind, .bool VM.b, .int .i64 VM.n, .string (strB VM.text), .slice pk6 VM.keys.length ck6, .slice pl6 VM.list.length cl6]) rfl rfl (by kernel_rfl) (by kernel_rfl) (by kernel_rfl) rfl (fun W hW => exec_load rfl rfl (get_val hW.box)) (by assumption) ?_
  simp only [Act.put, List.setIfInBounds_toArray, List.set_cons_zero, List.set_cons_succ]
  refine onlyCall 24 55 rfl rfl (by kernel_rfl) rfl (exec_call [.agg #[.int .i64 VM.kind, .bool VM.b, .int .i64 VM.n, .string (strB VM.text), .slice pk6 VM.keys.length ck6, .slice pl6 VM.list.length cl6], .agg #[.int .i64 VM.kind, .bool VM.b, .int .i64 VM.n, .string (strB VM.text), .slice pk6 VM.keys.length ck6, .slice pl6 VM.list.length cl6]] rfl rfl Tryz.func25 (by kernel_rfl) (by kernel_rfl)) ?_
  refine (eq_call HE.out hU).mono ?_
  rintro e w' ⟨rfl, hU⟩
  refine ⟨_, rfl, .inr (by assumption), ?_⟩
  simp only [Act.put, List.setIfInBounds_toArray, List.set_cons_zero, List.set_cons_succ]
  refine take 25 56 (v := .bool true) rfl rfl (by kernel_rfl) (by kernel_rfl) (by kernel_rfl) rfl (fun W hW => exec_bini rfl rfl rfl (e6 W)) (by assumption) ?_
  simp only [Act.put, List.setIfInBounds_toArray, List.set_cons_zero, List.set_cons_succ]
  refine take 26 57 (v := .bool true) rfl rfl (by kernel_rfl) (by kernel_rfl) (by kernel_rfl) rfl (fun W hW => rfl) (by assumption) ?_
  simp only [Act.put, List.setIfInBounds_toArray, List.set_cons_zero, List.set_cons_succ]
  refine take 27 58 (v := .bool true) rfl rfl (by kernel_rfl) (by kernel_rfl) (by kernel_rfl) rfl (fun W hW => exec_move rfl rfl) (by assumption) ?_
  simp only [Act.put, List.setIfInBounds_toArray, List.set_cons_zero, List.set_cons_succ]
  refine onlyCall 28 59 rfl rfl (by kernel_rfl) rfl (exec_call [.int .i64 1] rfl rfl Tryz.func43 (by kernel_rfl) (by kernel_rfl)) ?_
  refine (int_any 1 _).mono ?_
  rintro e w' ⟨rfl, hb⟩
  have hU := hU.keep hb
  clear hb
  refine ⟨_, rfl, .inr (by assumption), ?_⟩
  simp only [Act.put, List.setIfInBounds_toArray, List.set_cons_zero, List.set_cons_succ]
  refine onlyCall 29 60 rfl rfl (by kernel_rfl) rfl (exec_call [.int .i64 2] rfl rfl Tryz.func43 (by kernel_rfl) (by kernel_rfl)) ?_
  refine (int_any 2 _).mono ?_
  rintro e w' ⟨rfl, hb⟩
  have hU := hU.keep hb
  clear hb
  refine ⟨_, rfl, .inr (by assumption), ?_⟩
  simp only [Act.put, List.setIfInBounds_toArray, List.set_cons_zero, List.set_cons_succ]
  refine onlyCall 30 61 rfl rfl (by kernel_rfl) rfl (exec_call [.agg (flatX 2 false 1 []), .agg (flatX 2 false 2 [])] rfl rfl Tryz.func26 (by kernel_rfl) (by kernel_rfl)) ?_
  refine (less_call HE.out hU).mono ?_
  rintro e w' ⟨rfl, hU⟩
  refine ⟨_, rfl, .inr (by assumption), ?_⟩
  simp only [Act.put, List.setIfInBounds_toArray, List.set_cons_zero, List.set_cons_succ]
  refine take 31 62 (v := .bool true) rfl rfl (by kernel_rfl) (by kernel_rfl) (by kernel_rfl) rfl (fun W hW => exec_bini rfl rfl rfl (e7 W)) (by assumption) ?_
  simp only [Act.put, List.setIfInBounds_toArray, List.set_cons_zero, List.set_cons_succ]
  refine take 32 63 (v := .bool true) rfl rfl (by kernel_rfl) (by kernel_rfl) (by kernel_rfl) rfl (fun W hW => rfl) (by assumption) ?_
  simp only [Act.put, List.setIfInBounds_toArray, List.set_cons_zero, List.set_cons_succ]
  refine take 33 64 (v := .bool true) rfl rfl (by kernel_rfl) (by kernel_rfl) (by kernel_rfl) rfl (fun W hW => exec_move rfl rfl) (by assumption) ?_
  simp only [Act.put, List.setIfInBounds_toArray, List.set_cons_zero, List.set_cons_succ]
  refine take 34 65 (v := .agg #[.int .i64 VM.kind, .bool VM.b, .int .i64 VM.n, .string (strB VM.text), .slice pk6 VM.keys.length ck6, .slice pl6 VM.list.length cl6]) rfl rfl (by kernel_rfl) (by kernel_rfl) (by kernel_rfl) rfl (fun W hW => exec_load rfl rfl (get_val hW.box)) (by assumption) ?_
  simp only [Act.put, List.setIfInBounds_toArray, List.set_cons_zero, List.set_cons_succ]
  refine take 35 66 (v := .agg #[.int .i64 VM.kind, .bool VM.b, .int .i64 VM.n, .string (strB VM.text), .slice pk6 VM.keys.length ck6, .slice pl6 VM.list.length cl6]) rfl rfl (by kernel_rfl) (by kernel_rfl) (by kernel_rfl) rfl (fun W hW => exec_load rfl rfl (get_val hW.box)) (by assumption) ?_
  simp only [Act.put, List.setIfInBounds_toArray, List.set_cons_zero, List.set_cons_succ]
  refine onlyCall 36 67 rfl rfl (by kernel_rfl) rfl (exec_call [.agg #[.int .i64 VM.kind, .bool VM.b, .int .i64 VM.n, .string (strB VM.text), .slice pk6 VM.keys.length ck6, .slice pl6 VM.list.length cl6]] rfl rfl Tryz.func51 (by kernel_rfl) (by kernel_rfl)) ?_
  refine (copy_call hU).mono ?_
  rintro e w' ⟨y, rfl, hy, hU⟩
  refine ⟨_, rfl, .inr (by assumption), ?_⟩
  simp only [Act.put, List.setIfInBounds_toArray, List.set_cons_zero, List.set_cons_succ]
  refine onlyCall 37 68 rfl rfl (by kernel_rfl) rfl (exec_call [.agg #[.int .i64 VM.kind, .bool VM.b, .int .i64 VM.n, .string (strB VM.text), .slice pk6 VM.keys.length ck6, .slice pl6 VM.list.length cl6], .agg y] rfl rfl Tryz.func21 (by kernel_rfl) (by kernel_rfl)) ?_
  refine (same_call HE.out hU hy).mono ?_
  rintro e w' ⟨rfl, hU⟩
  refine ⟨_, rfl, .inr (by assumption), ?_⟩
  simp only [Act.put, List.setIfInBounds_toArray, List.set_cons_zero, List.set_cons_succ]
  refine take 38 69 (v := .bool true) rfl rfl (by kernel_rfl) (by kernel_rfl) (by kernel_rfl) rfl (fun W hW => rfl) (by assumption) ?_
  simp only [Act.put, List.setIfInBounds_toArray, List.set_cons_zero, List.set_cons_succ]
  refine take 39 0 (v := .bool true) rfl rfl (by kernel_rfl) (by kernel_rfl) (by kernel_rfl) rfl (fun W hW => exec_assign rfl rfl) (by assumption) ?_
  simp only [Act.put, List.setIfInBounds_toArray, List.set_cons_zero, List.set_cons_succ]
  refine done (by kernel_rfl) ?_ _
  go_wp2
  go_ret
  exact ⟨rfl, hU.below⟩
end Go.Proofs.YtnkaegdnjfpliaaGreatDoor

/-! Two boxes, and two copies with something to spare in boxes of their own: what the laws of two values keep. -/
namespace Go.Proofs.YtnkaegdnjfpliaaGreatDoor
set_option linter.unusedSimpArgs false
set_option linter.unusedVariables false
open Go.RowKit

def zeroX : Array Value := #[.int .i64 0, .bool false, .int .i64 0, .string ⟨#[]⟩, .slice none 0 0, .slice none 0 0]
theorem exec_allocV {a : Act} {w : World} {o : Oper} (ho : o.op = .alloc 26) : (execOp a.eval o).run Tryz.prog w = .ok (.value (.pointer (some ⟨w.heap.size, 0, none⟩))) (w.alloc (.cells zeroX 26)) := by
  unfold execOp
  simp [ho, go_sem, zeroX]
theorem run_two (x0 x1 x2 x3 x4 x5 y0 y1 y2 y3 y4 y5 : Value) (W : World) : (Instr.buildSlice 24 2 #[(0, .agg #[x0, x1, x2, x3, x4, x5]), (1, .agg #[y0, y1, y2, y3, y4, y5])]).run Tryz.prog W =
    .ok (.slice (some ⟨W.heap.size, 0, none⟩) 2 2) (W.alloc (.cells #[x0, x1, x2, x3, x4, x5, y0, y1, y2, y3, y4, y5] 26)) := by simp [go_sem]
/-- In memory from l to h. -/
abbrev In (l h : Nat) : Nat → Prop := fun b => l ≤ b ∧ b < h
/-- Two copies, in operations 1 and 3, and two boxes. -/
def CopF (a b : V) : OpF := fun i W v lo hi => match i with
  | 1 => ∃ x, v = .agg x ∧ VSp W (In lo hi) a x
  | 3 => ∃ x, v = .agg x ∧ VSp W (In lo hi) b x
  | _ => v = .pointer (some ⟨lo, 0, none⟩) ∧ lo < hi ∧ W.heap[lo]? = some (.cells zeroX 26 (0, 0))
theorem copF_keep {a b : V} (i : Nat) (w w' : World) (v : Value) (lo hi : Nat) (hh : hi ≤ w.heap.size) (hb : Below w.heap.size w w') (h : CopF a b i w v lo hi) : CopF a b i w' v lo hi := by
  unfold CopF at h ⊢
  split at h
  · obtain ⟨x, e, h⟩ := h; exact ⟨x, e, h.below hb⟩
  · obtain ⟨x, e, h⟩ := h; exact ⟨x, e, h.below hb⟩
  · obtain ⟨e, h1, h2⟩ := h; exact ⟨e, h1, (hb.block _ (by omega)).trans h2⟩
/-- The law's copied, as an operation. -/
theorem copied_in {v : V} (ht : totV v ≤ 1000000) {w : World} {x : Array Value} (hx : VRd w v x) : Calls Tryz.prog 17 #[.agg x] w fun e w' => ∃ u, e = .returned u ∧ Below w.heap.size w w' ∧ ∃ y, u = .agg y ∧ VSp w' (In w.heap.size w'.heap.size) v y :=
  (copied_any v ht w x hx).mono fun e w' ⟨y, h1, h2, h3⟩ => ⟨_, h1, h3, y, rfl, h2.imp fun b hb hp => ⟨hp, hb⟩⟩
/-- What lies while a law of two values asks. -/
structure OrdU (w : World) (X Y : Array Value) (a b : V) (p q : Nat) (x y : Array Value) (W : World) : Prop where
  two : TwoV w W X Y
  hm : W.heap[p]? = some (.cells x 26 (0, 0))
  hn : W.heap[q]? = some (.cells y 26 (0, 0))
  sm : ∃ P, VSp W P a x
  sn : ∃ P, VSp W P b y
theorem OrdU.keep {w W W' : World} {X Y : Array Value} {a b : V} {p q : Nat} {x y : Array Value} (h : OrdU w X Y a b p q x y W) (g : Below W.heap.size W W') : OrdU w X Y a b p q x y W' :=
  ⟨h.two.below g, (g.block _ (Array.getElem?_eq_some_iff.1 h.hm).1).trans h.hm, (g.block _ (Array.getElem?_eq_some_iff.1 h.hn).1).trans h.hn, h.sm.imp fun _ k => k.below g, h.sn.imp fun _ k => k.below g⟩
theorem TwoV.row {w W : World} {X Y : Array Value} (h : TwoV w W X Y) {p : Nat} (hp : w.heap.size + 2 ≤ p) (cs : Array Value) : TwoV w (W.setRow p cs) X Y := by
  have hT : Touch (fun q => q = p) W (W.setRow p cs) := ⟨rfl, rfl, rfl, by simp, fun q _ hq => setRow_other W p q _ hq⟩
  exact ⟨(setRow_other W p _ cs (by omega)).trans h.1, (setRow_other W p _ cs (by omega)).trans h.2.1, hT.below h.2.2 (fun q hq e => by omega) h.2.2.size⟩
/-- The copies are put into their boxes. -/
theorem OrdU.made {w W : World} {X Y : Array Value} {a b : V} {p q l1 h1 l3 h3 : Nat} {x0 x1 x2 x3 x4 x5 y0 y1 y2 y3 y4 y5 : Value} (hT : TwoV w W X Y) (sm : VSp W (In l1 h1) a #[x0, x1, x2, x3, x4, x5]) (sn : VSp W (In l3 h3) b #[y0, y1, y2, y3, y4, y5])
    (hp : W.heap[p]? = some (.cells zeroX 26 (0, 0))) (hq : W.heap[q]? = some (.cells zeroX 26 (0, 0))) (p2 : w.heap.size + 2 ≤ p) (q2 : w.heap.size + 2 ≤ q) (hpq : p ≠ q)
    (d1 : h1 ≤ p ∨ p < l1) (d2 : h1 ≤ q ∨ q < l1) (d3 : h3 ≤ p ∨ p < l3) (d4 : h3 ≤ q ∨ q < l3) :
    ∃ W1, (storeVar 26 ⟨p, 0, none⟩ (.agg #[x0, x1, x2, x3, x4, x5])).run Tryz.prog W = .ok () W1 ∧ TwoV w W1 X Y ∧
      ∃ W2, (storeVar 26 ⟨q, 0, none⟩ (.agg #[y0, y1, y2, y3, y4, y5])).run Tryz.prog W1 = .ok () W2 ∧ OrdU w X Y a b p q #[x0, x1, x2, x3, x4, x5] #[y0, y1, y2, y3, y4, y5] W2 := by
  have o1 := sm.ones
  have o2 := sn.ones
  have hst := run_storeVar_row (P := Tryz.prog) W p 26 26 _ #[x0, x1, x2, x3, x4, x5] hp (by kernel_rfl) rfl (by simpa using o1)
  have hy := setRow_heap W p _ #[x0, x1, x2, x3, x4, x5] 26 _ hp
  have ho := fun (b : Nat) (h : b ≠ p) => setRow_other W p b #[x0, x1, x2, x3, x4, x5] h
  have hT1 := hT.row p2 #[x0, x1, x2, x3, x4, x5]
  have sm1 := sm.keep (w' := W.setRow p #[x0, x1, x2, x3, x4, x5]) fun b hb _ => ho b (by have := hb.1; have := hb.2; omega)
  have sn1 := sn.keep (w' := W.setRow p #[x0, x1, x2, x3, x4, x5]) fun b hb _ => ho b (by have := hb.1; have := hb.2; omega)
  have hq1 := (ho q (Ne.symm hpq)).trans hq
  generalize W.setRow p #[x0, x1, x2, x3, x4, x5] = W1 at *
  refine ⟨W1, hst, hT1, ?_⟩
  have hst2 := run_storeVar_row (P := Tryz.prog) W1 q 26 26 _ #[y0, y1, y2, y3, y4, y5] hq1 (by kernel_rfl) rfl (by simpa using o2)
  have hy2 := setRow_heap W1 q _ #[y0, y1, y2, y3, y4, y5] 26 _ hq1
  have ho2 := fun (b : Nat) (h : b ≠ q) => setRow_other W1 q b #[y0, y1, y2, y3, y4, y5] h
  exact ⟨_, hst2, hT1.row q2 _, (ho2 p hpq).trans hy, hy2, ⟨_, sm1.keep fun b hb _ => ho2 b (by have := hb.1; have := hb.2; omega)⟩, ⟨_, sn1.keep fun b hb _ => ho2 b (by have := hb.1; have := hb.2; omega)⟩⟩
section
variable {w W : World} {X Y : Array Value} {a b : V} {p q : Nat} {x y : Array Value}
theorem OrdU.below (h : OrdU w X Y a b p q x y W) : Below w.heap.size w W := h.two.2.2
theorem OrdU.keptm (h : OrdU w X Y a b p q x y W) (hv : VRd w a X) (ht : totV a ≤ 1000000) : Calls Tryz.prog 22 #[.agg x, .agg X] W fun e w' => e = .returned (.bool true) ∧ OrdU w X Y a b p q x y w' := by
  obtain ⟨P, hP⟩ := h.sm
  exact (kept_any a P W x X ht hP (hv.below h.two.2.2)).mono fun _ _ h' => ⟨h'.1, h.keep h'.2⟩
theorem OrdU.keptn (h : OrdU w X Y a b p q x y W) (hv : VRd w b Y) (ht : totV b ≤ 1000000) : Calls Tryz.prog 22 #[.agg y, .agg Y] W fun e w' => e = .returned (.bool true) ∧ OrdU w X Y a b p q x y w' := by
  obtain ⟨P, hP⟩ := h.sn
  exact (kept_any b P W y Y ht hP (hv.below h.two.2.2)).mono fun _ _ h' => ⟨h'.1, h.keep h'.2⟩
theorem OrdU.works (h : OrdU w X Y a b p q x y W) (hE : Env w) : Calls Tryz.prog 16 #[] W fun e w' => e = .returned (.bool true) ∧ OrdU w X Y a b p q x y w' :=
  (works_any (hE.b h.two.2.2)).mono fun _ _ h' => ⟨h'.1, h.keep h'.2⟩
theorem OrdU.rm (h : OrdU w X Y a b p q x y W) (ht : totV a ≤ 1000000) : VRd W a x := by obtain ⟨P, hP⟩ := h.sm; exact hP.open ht
theorem OrdU.rn (h : OrdU w X Y a b p q x y W) (ht : totV b ≤ 1000000) : VRd W b y := by obtain ⟨P, hP⟩ := h.sn; exact hP.open ht
end
/-- The law's fine of the two values. -/
theorem fine2_in {w W : World} {x0 x1 x2 x3 x4 x5 y0 y1 y2 y3 y4 y5 : Value} {a b : V} (hw : Below w.heap.size w W) {g : Nat} (hg : W.heap[g]? = some (.cells #[x0, x1, x2, x3, x4, x5, y0, y1, y2, y3, y4, y5] 26 (0, 0))) (ha : VRd w a #[x0, x1, x2, x3, x4, x5]) (hb : VRd w b #[y0, y1, y2, y3, y4, y5]) (ht : totV a + totV b ≤ 1000000) :
    Calls Tryz.prog 18 #[.slice (some ⟨g, 0, none⟩) 2 2] W fun e w' => e = .returned (.bool (okV a && okV b)) ∧ Below W.heap.size W w' := by
  have hL := LRd.two hg (ha.below hw) (hb.below hw)
  refine (finel_any hL (by simp only [totVs]; omega)).mono ?_
  rintro e w' ⟨rfl, hb'⟩
  exact ⟨ret_bool (by simp [fineL]), hb'⟩
end Go.Proofs.YtnkaegdnjfpliaaGreatDoor
