/- BookCuts: the walk. -/
import Derived.Test.YtfpmdagchbbkcaaBk
namespace Go.Proofs.Ytfpmdagchbbkcaa
open Go.RowKit

/-- Which of the steps fail. -/
theorem putE_flag {d : DM} {M : Nat} (hB : FailB d M) (N : Nat) (l : List UInt8) :
    d.failing = (d.fails (d.steps : Int)).isSome ∧ (putA d N l).failing = (d.fails ((d.steps : Int) + 1)).isSome ∧
    (putE d N l).2 = ((d.fails (d.steps : Int)).isSome || (d.fails ((d.steps : Int) + 1)).isSome || (d.fails ((d.steps : Int) + 2)).isSome || (d.fails ((d.steps : Int) + 3)).isSome) := by
  have f0 := hB.failing
  have key : ∀ D : DM, D.fails = d.fails → D.failing = (d.fails (D.steps : Int)).isSome := fun D h => by
    have : FailB D M := by unfold FailB; rw [h]; exact hB
    rw [this.failing, h]
  have fA := key (putA d N l) rfl
  have sA : (putA d N l).steps = d.steps + 1 := rfl
  have fB := key (putA d N l).flush.1 (by rw [flush_fails]; rfl)
  have sB : ((putA d N l).flush.1).steps = d.steps + 2 := by rw [DM.flush_steps, sA]
  have fC := key (putC d N l) (by unfold putC; rw [write_fails, flush_fails]; rfl)
  have sC : (putC d N l).steps = d.steps + 3 := by unfold putC; show ((putA d N l).flush.1).steps + 1 = _; rw [sB]
  rw [sA] at fA; rw [sB] at fB; rw [sC] at fC
  have e1 : ((d.steps + 1 : Nat) : Int) = (d.steps : Int) + 1 := by omega
  have e2 : ((d.steps + 2 : Nat) : Int) = (d.steps : Int) + 2 := by omega
  have e3 : ((d.steps + 3 : Nat) : Int) = (d.steps : Int) + 3 := by omega
  rw [e1] at fA; rw [e2] at fB; rw [e3] at fC
  refine ⟨f0, fA, ?_⟩
  unfold putE
  rw [← f0, ← fA, ← fB, ← fC]
  cases d.failing <;> cases (putA d N l).failing <;> cases ((putA d N l).flush.1).failing <;> simp

/-- A step as a value. -/
def stepV (kd num : Int) (ls : List UInt8) (q : Option Addr) (m c : Nat) : Array Value := #[.int .i64 kd, .int .i64 num, .string (strB ls), .slice q m c]
theorem one_step {w : World} {B : Nat} {kd num : Int} {ls : List UInt8} {q : Option Addr} {m c : Nat} {t : TypeId} {fr : Nat × Nat} (h : w.heap[B]? = some (.cells (stepV kd num ls q m c) t fr)) : StepsAt w (.slice (some ⟨B, 0, none⟩) 1 1) [(ls.length, m)] := by
  refine ⟨some ⟨B, 0, none⟩, 1, rfl, fun h => (by cases h), fun ad had => ?_⟩
  cases had
  refine ⟨rfl, fun i p hp => ?_⟩
  cases i with
  | zero =>
    simp only [List.getElem?_cons_zero, Option.some.injEq] at hp
    subst hp
    exact ⟨strB ls, q, c, cellOf h rfl, rfl, cellOf h rfl⟩
  | succ i => simp at hp

/-- The world behind the law's first lines. -/
abbrev cutW (ls : List UInt8) (kd num : Int) (q : Option Addr) (m c : Nat) (w : World) : World :=
  (w.alloc (.cells #[.int .i64 kd, .int .i64 num, .string (strB ls), .slice q m c] 25)).alloc (.cells #[.int .i64 kd, .int .i64 num, .string (strB ls), .slice q m c] 25)
theorem vast_cut (n : Int) (ls : List UInt8) (kd num : Int) (q : Option Addr) (m c : Nat) (w : World) :
    Calls Try.prog 7 #[.int .i64 n, .slice (some ⟨w.heap.size + 1, 0, none⟩) 1 1] (cutW ls kd num q m c w) fun e w' => e = .returned (.bool (vastB n [(ls.length, m)])) ∧ cutW ls kd num q m c w = w' := by
  have h : (cutW ls kd num q m c w).heap[w.heap.size + 1]? = some (.cells (stepV kd num ls q m c) 25 (0, 0)) := by
    have := heap_alloc_new (w.alloc (.cells #[.int .i64 kd, .int .i64 num, .string (strB ls), .slice q m c] 25)) (.cells #[.int .i64 kd, .int .i64 num, .string (strB ls), .slice q m c] 25)
    simpa [stepV] using this
  exact vast_any n _ _ _ (one_step h)

set_option maxRecDepth 100000 in
set_option maxHeartbeats 2000000 in
theorem cuts_known (n cut : Int) (ls : List UInt8) (kd num : Int) (q : Option Addr) (m c : Nat) (w : World) (picks : List Int) (hrd : RdI w (.slice q m c) picks)
    (h : vastB n [(ls.length, m)] = true ∨ n < 4 ∨ 65536 < n ∨ anyNeg picks = true ∨ cut < 0 ∨ 3 < cut) :
    Calls Try.prog 5 #[.int .i64 n, .agg (stepV kd num ls q m c), .int .i64 cut] w fun e w' => e = .returned (.bool true) ∧ Below w.heap.size w w' := by
  have hv0 := vast_cut n ls kd num q m c w
  have hm : m = picks.length := by obtain ⟨_, _, e, _⟩ := hrd; cases e; rfl
  have hlen : vastB n [(ls.length, m)] = false → picks.length ≤ 1000000 := fun h => by
    simp only [vastB, Bool.or_eq_false_iff, List.any_cons, List.any_nil, bigStep, decide_eq_false_iff_not] at h
    omega
  have hb0 : Below w.heap.size w (cutW ls kd num q m c w) := ((Below.refl _ _).alloc (Nat.le_refl _) _).alloc (by simp) _
  have hnb : vastB n [(ls.length, m)] = false → _ := fun h => noBelow_any q m c picks (cutW ls kd num q m c w) (hrd.below hb0) (hlen h)
  have Hv := Lib.hid hv0
  have Hnb := Lib.hid hnb
  have Hk := Lib.hid known_any
  clear hv0 hnb hb0 hlen hm hrd
  generalize hvb : vastB n [(ls.length, m)] = vb at *
  have Hvb := Lib.hid hvb
  clear hvb
  generalize hng : anyNeg picks = ng at *
  clear hng
  unfold stepV
  have hcases : vb = true ∨ (vb = false ∧ decide (n < 4) = true) ∨ (vb = false ∧ decide (n < 4) = false ∧ decide (n > 65536) = true) ∨
      (vb = false ∧ decide (n < 4) = false ∧ decide (n > 65536) = false ∧ ng = true) ∨
      (vb = false ∧ decide (n < 4) = false ∧ decide (n > 65536) = false ∧ ng = false ∧ decide (cut < 0) = true) ∨
      (vb = false ∧ decide (n < 4) = false ∧ decide (n > 65536) = false ∧ ng = false ∧ decide (cut < 0) = false ∧ decide (cut > 3) = true) := by
    cases vb <;> cases ng <;> simp only [decide_eq_true_iff, decide_eq_false_iff_not] at * <;> simp at h ⊢ <;> omega
  clear h
  rcases hcases with rfl | ⟨rfl, c1⟩ | ⟨rfl, c1, c2⟩ | ⟨rfl, c1, c2, rfl⟩ | ⟨rfl, c1, c2, rfl, c3⟩ | ⟨rfl, c1, c2, rfl, c3, c4⟩
  all_goals
    first | (have Hn := Lib.hid (Hnb.out rfl)) | skip
    clear Hnb
    go_enter Try.func5, Try.ntmps5
    go_wp2_with (first
      | (go_at_call 7; refine Hv.out.mono ?_; rintro e w1 ⟨rfl, rfl⟩)
      | (go_at_call 20; refine Hn.out.mono ?_; rintro e w1 ⟨rfl, rfl⟩)
      | (go_at_call 8; refine (Hk.out _).mono ?_; rintro e w2 ⟨rfl, hb⟩; have HB := Lib.hid hb; clear hb))
    go_ret
    exact ⟨rfl, ((Below.refl _ _).alloc (Nat.le_refl _) _).alloc (by simp) _ |>.trans (HB.out.mono (by simp; omega))⟩
end Go.Proofs.Ytfpmdagchbbkcaa
