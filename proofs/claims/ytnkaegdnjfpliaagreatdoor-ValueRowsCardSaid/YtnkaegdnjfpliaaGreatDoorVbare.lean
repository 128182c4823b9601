/- value.bare. Printed by gen_vbare.py. -/
import Derived.Test.YtnkaegdnjfpliaaGreatDoorVeq
namespace Go.Proofs.YtnkaegdnjfpliaaGreatDoor
set_option linter.unusedSimpArgs false
set_option linter.unusedVariables false
open Go.RowKit

theorem exec_lenS {a : Act} {w : World} {o : Oper} {x : Operand} {p : Option Addr} {n c : Nat} (ho : o.op = .call { callee := .builtin .len, args := #[x], argTypes := #[23] }) (hx : a.eval x = .slice p n c) : (execOp a.eval o).run Tryz.prog w = .ok (.value (.int .i64 (n : Int))) w := by
  unfold execOp; simp only [ho, resolve, invoke, Sem.run_bind, Sem.run_pure, Result.andThen_ok, List.map_toArray, List.map_cons, List.map_nil, hx]; simp [go_sem]
theorem exec_lenV {a : Act} {w : World} {o : Oper} {x : Operand} {p : Option Addr} {n c : Nat} (ho : o.op = .call { callee := .builtin .len, args := #[x], argTypes := #[24] }) (hx : a.eval x = .slice p n c) : (execOp a.eval o).run Tryz.prog w = .ok (.value (.int .i64 (n : Int))) w := by
  unfold execOp; simp only [ho, resolve, invoke, Sem.run_bind, Sem.run_pure, Result.andThen_ok, List.map_toArray, List.map_cons, List.map_nil, hx]; simp [go_sem]
/-- Is a value bare, as the code tells it? -/
def bareF (v : V) : Bool := decide (0 ≤ v.kind) && decide (v.kind ≤ 7) && bareV v && (!(v.kind == 6 || v.kind == 7) || decide (0 ≤ v.n))
/-- A value lies in a box. -/
def OneB (w W : World) (x : Array Value) : Prop := W.heap[w.heap.size]? = some (.cells x 26 (0, 0)) ∧ Below w.heap.size w W
theorem OneB.below {w W W' : World} {x : Array Value} (h : OneB w W x) (g : Below W.heap.size W W') : OneB w W' x := ⟨belowBlk g (Array.getElem?_eq_some_iff.1 h.1).1 h.1, below_trans h.2 g⟩
theorem OneB.start (w : World) (x : Array Value) : OneB w (w.alloc (.cells x 26)) x := ⟨heap_alloc_new w _, below_new _⟩
set_option maxRecDepth 100000 in
set_option maxHeartbeats 8000000 in
theorem bare_any {v : V} {w : World} {x : Array Value} (hx : VRd w v x) : Calls Tryz.prog 114 #[.agg x] w fun e w' => e = .returned (.bool (bareF v)) ∧ Below w.heap.size w w' := by
  obtain ⟨pk, ck, pl, cl, rfl, _, hk1, hl1⟩ := hx.open
  cases v with
  | mk k b n t ks l =>
  simp only [V.kind, V.b, V.n, V.text, V.keys, V.list] at *
  have hR : bareF (.mk k b n t ks l) = (decide (0 ≤ k) && decide (k ≤ 7) && ((k == 1 || !b) && (k == 2 || k == 6 || k == 7 || n == 0) && (k == 3 || t.isEmpty) && (k == 5 || ks.isEmpty) && (k == 4 || k == 5 || l.isEmpty)) && (!(k == 6 || k == 7) || decide (0 ≤ n))) := rfl
  have hn0 : (n == 0) = !(decide (n ≠ 0)) := by by_cases h : n = 0 <;> simp [h]
  have ht0 : t.isEmpty = !(decide (t ≠ [])) := by cases t <;> simp
  have hk0 : ks.isEmpty = !(decide (0 < ks.length)) := by cases ks <;> simp
  have hl0 : l.isEmpty = !(decide (0 < l.length)) := by cases l <;> simp
  rw [hn0, ht0, hk0, hl0] at hR
  generalize bareF (.mk k b n t ks l) = R at hR ⊢
  have hT := OneB.start w #[.int .i64 k, .bool b, .int .i64 n, .string (strB t), .slice pk ks.length ck, .slice pl l.length cl]
  have HT := Lib.hid hT
  have HR := Lib.hid hR
  clear hx hk1 hl1 hT hR hn0 ht0 hk0 hl0
  go_enter Tryz.func114, Tryz.ntmps114
  go_wp2
  have hT := HT.out
  generalize w.alloc _ = W0 at *
  have hT0 := hT.below (Below.refl _ _).drew
  have hne : ∀ W : World, (binOp .neq 2 (.int .i64 n) (.int .i64 0)).run Tryz.prog W = .ok (.bool (decide (n ≠ 0))) W := by
    intro W; by_cases h : n = 0 <;> simp [go_sem, h]
  have hgt : ∀ (m : Nat) (W : World), (binOp .gtr 3 (.int .i64 (m : Int)) (.int .i64 0)).run Tryz.prog W = .ok (.bool (decide (0 < m))) W := by
    intro m W; simp [go_sem]
  refine plain_region_draws (fun W => OneB w W #[.int .i64 k, .bool b, .int .i64 n, .string (strB t), .slice pk ks.length ck, .slice pl l.length cl]) (by kernel_rfl) hT0 (fun hU0 => ?_)
  refine take 0 8 (v := .pointer (some ⟨w.heap.size, 1, none⟩)) rfl rfl (by kernel_rfl) (by kernel_rfl) (by kernel_rfl) rfl (fun W hW => exec_fieldAddr rfl rfl (fa_value _ _ (by decide) W)) (by assumption) ?_
  simp only [Act.put, List.setIfInBounds_toArray, List.set_cons_zero, List.set_cons_succ]
  refine take 1 9 (v := .bool b) rfl rfl (by kernel_rfl) (by kernel_rfl) (by kernel_rfl) rfl (fun W hW => exec_load rfl rfl (run_load1 (w := W) Tryz.underlying4 rfl (cellOf hW.1 rfl))) (by assumption) ?_
  simp only [Act.put, List.setIfInBounds_toArray, List.set_cons_zero, List.set_cons_succ]
  refine take 2 10 (v := .pointer (some ⟨w.heap.size, 2, none⟩)) rfl rfl (by kernel_rfl) (by kernel_rfl) (by kernel_rfl) rfl (fun W hW => exec_fieldAddr rfl rfl (fa_value _ _ (by decide) W)) (by assumption) ?_
  simp only [Act.put, List.setIfInBounds_toArray, List.set_cons_zero, List.set_cons_succ]
  refine take 3 11 (v := .int .i64 n) rfl rfl (by kernel_rfl) (by kernel_rfl) (by kernel_rfl) rfl (fun W hW => exec_load rfl rfl (run_load1 (w := W) Tryz.underlying2 rfl (cellOf hW.1 rfl))) (by assumption) ?_
  simp only [Act.put, List.setIfInBounds_toArray, List.set_cons_zero, List.set_cons_succ]
  refine take 4 12 (v := .bool (decide (n ≠ 0))) rfl rfl (by kernel_rfl) (by kernel_rfl) (by kernel_rfl) rfl (fun W hW => exec_bini rfl rfl rfl (hne W)) (by assumption) ?_
  simp only [Act.put, List.setIfInBounds_toArray, List.set_cons_zero, List.set_cons_succ]
  refine take 5 13 (v := .pointer (some ⟨w.heap.size, 3, none⟩)) rfl rfl (by kernel_rfl) (by kernel_rfl) (by kernel_rfl) rfl (fun W hW => exec_fieldAddr rfl rfl (fa_value _ _ (by decide) W)) (by assumption) ?_
  simp only [Act.put, List.setIfInBounds_toArray, List.set_cons_zero, List.set_cons_succ]
  refine take 6 14 (v := .string (strB t)) rfl rfl (by kernel_rfl) (by kernel_rfl) (by kernel_rfl) rfl (fun W hW => exec_load rfl rfl (run_load1 (w := W) Tryz.underlying9 rfl (cellOf hW.1 rfl))) (by assumption) ?_
  simp only [Act.put, List.setIfInBounds_toArray, List.set_cons_zero, List.set_cons_succ]
  refine take 7 15 (v := .bool (decide (t ≠ []))) rfl rfl (by kernel_rfl) (by kernel_rfl) (by kernel_rfl) rfl (fun W hW => exec_bins rfl rfl rfl (run_neStr _ _ t [] W)) (by assumption) ?_
  simp only [Act.put, List.setIfInBounds_toArray, List.set_cons_zero, List.set_cons_succ]
  refine take 8 16 (v := .pointer (some ⟨w.heap.size, 4, none⟩)) rfl rfl (by kernel_rfl) (by kernel_rfl) (by kernel_rfl) rfl (fun W hW => exec_fieldAddr rfl rfl (fa_value _ _ (by decide) W)) (by assumption) ?_
  simp only [Act.put, List.setIfInBounds_toArray, List.set_cons_zero, List.set_cons_succ]
  refine take 9 17 (v := .slice pk ks.length ck) rfl rfl (by kernel_rfl) (by kernel_rfl) (by kernel_rfl) rfl (fun W hW => exec_load rfl rfl (run_load1 (w := W) Tryz.underlying23 rfl (cellOf hW.1 rfl))) (by assumption) ?_
  simp only [Act.put, List.setIfInBounds_toArray, List.set_cons_zero, List.set_cons_succ]
  refine take 10 18 (v := .int .i64 (ks.length : Int)) rfl rfl (by kernel_rfl) (by kernel_rfl) (by kernel_rfl) rfl (fun W hW => exec_lenS rfl rfl) (by assumption) ?_
  simp only [Act.put, List.setIfInBounds_toArray, List.set_cons_zero, List.set_cons_succ]
  refine take 11 19 (v := .bool (decide (0 < ks.length))) rfl rfl (by kernel_rfl) (by kernel_rfl) (by kernel_rfl) rfl (fun W hW => exec_bini rfl rfl rfl (hgt _ W)) (by assumption) ?_
  simp only [Act.put, List.setIfInBounds_toArray, List.set_cons_zero, List.set_cons_succ]
  refine take 12 20 (v := .pointer (some ⟨w.heap.size, 5, none⟩)) rfl rfl (by kernel_rfl) (by kernel_rfl) (by kernel_rfl) rfl (fun W hW => exec_fieldAddr rfl rfl (fa_value _ _ (by decide) W)) (by assumption) ?_
  simp only [Act.put, List.setIfInBounds_toArray, List.set_cons_zero, List.set_cons_succ]
  refine take 13 21 (v := .slice pl l.length cl) rfl rfl (by kernel_rfl) (by kernel_rfl) (by kernel_rfl) rfl (fun W hW => exec_load rfl rfl (run_load1 (w := W) Tryz.underlying24 rfl (cellOf hW.1 rfl))) (by assumption) ?_
  simp only [Act.put, List.setIfInBounds_toArray, List.set_cons_zero, List.set_cons_succ]
  refine take 14 22 (v := .int .i64 (l.length : Int)) rfl rfl (by kernel_rfl) (by kernel_rfl) (by kernel_rfl) rfl (fun W hW => exec_lenV rfl rfl) (by assumption) ?_
  simp only [Act.put, List.setIfInBounds_toArray, List.set_cons_zero, List.set_cons_succ]
  refine take 15 23 (v := .bool (decide (0 < l.length))) rfl rfl (by kernel_rfl) (by kernel_rfl) (by kernel_rfl) rfl (fun W hW => exec_bini rfl rfl rfl (hgt _ W)) (by assumption) ?_
  simp only [Act.put, List.setIfInBounds_toArray, List.set_cons_zero, List.set_cons_succ]
  refine take 16 3 (v := .bool b) rfl rfl (by kernel_rfl) (by kernel_rfl) (by kernel_rfl) rfl (fun W hW => exec_assign rfl rfl) (by assumption) ?_
  simp only [Act.put, List.setIfInBounds_toArray, List.set_cons_zero, List.set_cons_succ]
  refine take 17 4 (v := .bool (decide (n ≠ 0))) rfl rfl (by kernel_rfl) (by kernel_rfl) (by kernel_rfl) rfl (fun W hW => exec_assign rfl rfl) (by assumption) ?_
  simp only [Act.put, List.setIfInBounds_toArray, List.set_cons_zero, List.set_cons_succ]
  refine take 18 5 (v := .bool (decide (t ≠ []))) rfl rfl (by kernel_rfl) (by kernel_rfl) (by kernel_rfl) rfl (fun W hW => exec_assign rfl rfl) (by assumption) ?_
  simp only [Act.put, List.setIfInBounds_toArray, List.set_cons_zero, List.set_cons_succ]
  refine take 19 6 (v := .bool (decide (0 < ks.length))) rfl rfl (by kernel_rfl) (by kernel_rfl) (by kernel_rfl) rfl (fun W hW => exec_assign rfl rfl) (by assumption) ?_
  simp only [Act.put, List.setIfInBounds_toArray, List.set_cons_zero, List.set_cons_succ]
  refine take 20 7 (v := .bool (decide (0 < l.length))) rfl rfl (by kernel_rfl) (by kernel_rfl) (by kernel_rfl) rfl (fun W hW => exec_assign rfl rfl) (by assumption) ?_
  simp only [Act.put, List.setIfInBounds_toArray, List.set_cons_zero, List.set_cons_succ]
  refine done (by kernel_rfl) ?_ _
  have HF := Lib.hid (And.intro HR.out (And.intro (cellOf (o := 0) hU0.1 rfl) (And.intro (cellOf (o := 2) hU0.1 rfl) hU0.2)))
  have q0 := HF.out.2.1
  have q2 := HF.out.2.2.1
  clear hT hT0 hU0 HT HR hgt hne
  generalize W0.drew = W1 at *
  revert HF
  generalize decide (n ≠ 0) = d2
  generalize decide (t ≠ []) = d3
  generalize decide (0 < ks.length) = d4
  generalize decide (0 < l.length) = d5
  intro HF
  by_cases hk : 0 ≤ k ∧ k ≤ 7
  · have hk' : k = 0 ∨ k = 1 ∨ k = 2 ∨ k = 3 ∨ k = 4 ∨ k = 5 ∨ k = 6 ∨ k = 7 := by omega
    clear hk
    rcases hk' with rfl | rfl | rfl | rfl | rfl | rfl | rfl | rfl
    · cases b <;> cases d2 <;> cases d3 <;> cases d4 <;> cases d5 <;> (go_wp2; go_ret; exact ⟨ret_bool (by rw [HF.out.1]; rfl), HF.out.2.2.2⟩)
    · cases d2 <;> cases d3 <;> cases d4 <;> cases d5 <;> (go_wp2; go_ret; exact ⟨ret_bool (by rw [HF.out.1]; cases b <;> rfl), HF.out.2.2.2⟩)
    · cases b <;> cases d3 <;> cases d4 <;> cases d5 <;> (go_wp2; go_ret; exact ⟨ret_bool (by rw [HF.out.1]; cases d2 <;> rfl), HF.out.2.2.2⟩)
    · cases b <;> cases d2 <;> cases d4 <;> cases d5 <;> (go_wp2; go_ret; exact ⟨ret_bool (by rw [HF.out.1]; cases d3 <;> rfl), HF.out.2.2.2⟩)
    · cases b <;> cases d2 <;> cases d3 <;> cases d4 <;> (go_wp2; go_ret; exact ⟨ret_bool (by rw [HF.out.1]; cases d5 <;> rfl), HF.out.2.2.2⟩)
    · cases b <;> cases d2 <;> cases d3 <;> (go_wp2; go_ret; exact ⟨ret_bool (by rw [HF.out.1]; cases d4 <;> cases d5 <;> rfl), HF.out.2.2.2⟩)
    · by_cases hn : n < 0
      · have hd : decide (0 ≤ n) = false := by simp; omega
        go_wp2
        go_ret
        exact ⟨ret_bool (by rw [HF.out.1, hd]; simp), HF.out.2.2.2⟩
      · have hd : decide (0 ≤ n) = true := by simp; omega
        have hlt : decide (n < 0) = false := by simp; omega
        cases b <;> cases d3 <;> cases d4 <;> cases d5 <;> (go_wp2; go_ret; exact ⟨ret_bool (by rw [HF.out.1, hd]; cases d2 <;> rfl), HF.out.2.2.2⟩)
    · by_cases hn : n < 0
      · have hd : decide (0 ≤ n) = false := by simp; omega
        go_wp2
        go_ret
        exact ⟨ret_bool (by rw [HF.out.1, hd]; simp), HF.out.2.2.2⟩
      · have hd : decide (0 ≤ n) = true := by simp; omega
        have hlt : decide (n < 0) = false := by simp; omega
        cases b <;> cases d3 <;> cases d4 <;> cases d5 <;> (go_wp2; go_ret; exact ⟨ret_bool (by rw [HF.out.1, hd]; cases d2 <;> rfl), HF.out.2.2.2⟩)
  · have e0 : (k == 0) = false := by rw [beq_eq_false_iff_ne]; omega
    have e1 : (k == 1) = false := by rw [beq_eq_false_iff_ne]; omega
    have e2 : (k == 2) = false := by rw [beq_eq_false_iff_ne]; omega
    have e3 : (k == 3) = false := by rw [beq_eq_false_iff_ne]; omega
    have e4 : (k == 4) = false := by rw [beq_eq_false_iff_ne]; omega
    have e5 : (k == 5) = false := by rw [beq_eq_false_iff_ne]; omega
    have e6 : (k == 6) = false := by rw [beq_eq_false_iff_ne]; omega
    have e7 : (k == 7) = false := by rw [beq_eq_false_iff_ne]; omega
    have hR : R = false := by
      rw [HF.out.1]
      by_cases h0 : 0 ≤ k
      · have : ¬ k ≤ 7 := fun h => hk ⟨h0, h⟩
        simp [this]
      · simp [h0]
    have HF2 := Lib.hid (And.intro hR HF.out.2.2.2)
    clear hR HF hk
    go_wp2
    go_ret
    exact ⟨ret_bool HF2.out.1.symm, HF2.out.2⟩
end Go.Proofs.YtnkaegdnjfpliaaGreatDoor
