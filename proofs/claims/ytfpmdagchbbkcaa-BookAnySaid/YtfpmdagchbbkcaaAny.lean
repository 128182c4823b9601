/- BookAny: the walk. -/
import Derived.Test.YtfpmdagchbbkcaaKnown
import Derived.Test.YtfpmdagchbbkcaaVast
import Derived.Test.YtfpmdagchbbkcaaRefb
namespace Go.Proofs.Ytfpmdagchbbkcaa
open Go.RowKit

theorem exec_indexAddr {P : Program} {a : Act} {w w' : World} {o : Oper} {t : TypeId} {x y : Operand} {vx vy v : Value} (ho : o.op = .indexAddr t x y) (hx : a.eval x = vx) (hy : a.eval y = vy) (hr : (Instr.indexAt t vx vy).run P w = .ok v w') :
    (execOp a.eval o).run P w = .ok (.value v) w' := by
  unfold execOp; rw [ho]; simp only [hx, hy, Sem.run_bind, hr, Result.andThen_ok, Sem.run_pure]

/-- A step as a value. -/
def stepV (kd num : Int) (ls : List UInt8) (q : Option Addr) (m c : Nat) : Array Value := #[.int .i64 kd, .int .i64 num, .string (strB ls), .slice q m c]
theorem one_step {w : World} {B : Nat} {kd num : Int} {ls : List UInt8} {q : Option Addr} {m c : Nat} {t : TypeId} {fr : Nat × Nat} (h : w.heap[B]? = some (.cells (stepV kd num ls q m c) t fr)) : StepsAt w (.slice (some ⟨B, 0, none⟩) 1 1) [(ls.length, m)] := by
  refine ⟨some ⟨B, 0, none⟩, 1, rfl, fun h => (by cases h), by simp, fun ad had => ?_⟩
  cases had
  refine ⟨rfl, fun i p hp => ?_⟩
  cases i with
  | zero =>
    simp only [List.getElem?_cons_zero, Option.some.injEq] at hp
    subst hp
    exact ⟨strB ls, q, c, cellOf h rfl, rfl, cellOf h rfl⟩
  | succ i => simp at hp

/-- The world behind the law's first lines. -/
abbrev anyW (l0 l1 ls : List UInt8) (kd num : Int) (q : Option Addr) (m c : Nat) (w : World) : World :=
  ((w.alloc (.cells #[.string (strB l0), .string (strB l1)] 22)).alloc (.cells #[.int .i64 kd, .int .i64 num, .string (strB ls), .slice q m c] 25)).alloc (.cells #[.int .i64 kd, .int .i64 num, .string (strB ls), .slice q m c] 25)
theorem vast_in (n : Int) (l0 l1 ls : List UInt8) (kd num : Int) (q : Option Addr) (m c : Nat) (w : World) :
    Calls Try.prog 7 #[.int .i64 n, .slice (some ⟨w.heap.size + 1 + 1, 0, none⟩) 1 1] (anyW l0 l1 ls kd num q m c w) fun e w' => e = .returned (.bool (vastB n [(ls.length, m)])) ∧ anyW l0 l1 ls kd num q m c w = w' := by
  have h : (anyW l0 l1 ls kd num q m c w).heap[w.heap.size + 1 + 1]? = some (.cells (stepV kd num ls q m c) 25 (0, 0)) := by
    have := heap_alloc_new ((w.alloc (.cells #[.string (strB l0), .string (strB l1)] 22)).alloc (.cells #[.int .i64 kd, .int .i64 num, .string (strB ls), .slice q m c] 25)) (.cells #[.int .i64 kd, .int .i64 num, .string (strB ls), .slice q m c] 25)
    simpa [stepV] using this
  exact vast_any n _ _ _ (one_step h)

set_option maxRecDepth 100000 in
set_option maxHeartbeats 2000000 in
theorem any_known (n : Int) (l0 l1 ls : List UInt8) (kd num : Int) (q : Option Addr) (m c : Nat) (w : World)
    (h : vastB n [(ls.length, m)] = true ∨ 512 < l0.length ∨ 512 < l1.length ∨ n < 4 ∨ 65536 < n) :
    Calls Try.prog 3 #[.int .i64 n, .agg #[.string (strB l0), .string (strB l1)], .agg (stepV kd num ls q m c)] w fun e w' => e = .returned (.bool true) ∧ Below w.heap.size w w' := by
  have hv0 := vast_in n l0 l1 ls kd num q m c w
  generalize vastB n [(ls.length, m)] = vb at *
  have Hv := Lib.hid hv0
  have Hk := Lib.hid known_any
  have hs0 : (strB l0).size = l0.length := strB_size _
  have hs1 : (strB l1).size = l1.length := strB_size _
  clear hv0
  unfold stepV
  have hcases : vb = true ∨ (vb = false ∧ decide ((l0.length : Int) > 512) = true) ∨ (vb = false ∧ decide ((l0.length : Int) > 512) = false ∧ decide ((l1.length : Int) > 512) = true) ∨
      (vb = false ∧ decide ((l0.length : Int) > 512) = false ∧ decide ((l1.length : Int) > 512) = false ∧ decide (n < 4) = true) ∨
      (vb = false ∧ decide ((l0.length : Int) > 512) = false ∧ decide ((l1.length : Int) > 512) = false ∧ decide (n < 4) = false ∧ decide (n > 65536) = true) := by
    cases vb <;> simp only [decide_eq_true_iff, decide_eq_false_iff_not] at * <;> simp at h ⊢ <;> omega
  clear h
  rcases hcases with rfl | ⟨rfl, c1⟩ | ⟨rfl, c1, c2⟩ | ⟨rfl, c1, c2, c3⟩ | ⟨rfl, c1, c2, c3, c4⟩
  all_goals
    go_enter Try.func3, Try.ntmps3
    go_wp2_with (first
      | (go_at_call 7; refine Hv.out.mono ?_; rintro e w1 ⟨rfl, rfl⟩)
      | (go_at_call 8; refine (Hk.out _).mono ?_; rintro e w2 ⟨rfl, hb⟩; have HB := Lib.hid hb; clear hb))
    go_ret
    exact ⟨rfl, (((Below.refl _ _).alloc (Nat.le_refl _) _).alloc (by simp) _).alloc (by simp; omega) _ |>.trans (HB.out.mono (by simp; omega))⟩
end Go.Proofs.Ytfpmdagchbbkcaa
