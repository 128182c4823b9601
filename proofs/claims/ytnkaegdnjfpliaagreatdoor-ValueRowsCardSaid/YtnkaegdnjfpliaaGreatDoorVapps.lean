/- Values appended behind values. -/
import Derived.Test.YtnkaegdnjfpliaaGreatDoorVcopy
namespace Go.Proofs.YtnkaegdnjfpliaaGreatDoor
set_option linter.unusedSimpArgs false
set_option linter.unusedVariables false
open Go.RowKit

theorem wpList_runG {P : Program} {ops : Array Oper} {rest : List Oper} {o : Oper} {a : Act} {w w' : World} {v : Value} {Q : Exit → Act → World → Prop} (hw : Region.wanted o (yielded ops a.tmps) = true) (hr : (execOp a.eval o).run P w = .ok (.value v) w') (h : wpList P ops Q rest (a.put o.dst v) w') : wpList P ops Q (o :: rest) a w := by
  unfold wpList
  rw [if_pos hw]
  exact .inl (by unfold Oper.wp; rw [hr]; exact h)
/-- An append whose guard says yes. -/
theorem wpList_appendG {P : Program} {ops : Array Oper} {rest : List Oper} {o : Oper} {a : Act} {w w' : World} {v : Value} {Q : Exit → Act → World → Prop} {x y : Operand} {t u : TypeId} {vx vy : Value} (hw : Region.wanted o (yielded ops a.tmps) = true) (ho : o.op = .call { callee := .builtin .append, args := #[x, y], argTypes := #[t, u] }) (hx : a.eval x = vx) (hy : a.eval y = vy)
    (hr : (Builtin.append_ #[t, u] o.type #[vx, vy]).run P w = .ok v w') (h : wpList P ops Q rest (a.put o.dst v) w') : wpList P ops Q (o :: rest) a w := wpList_runG hw (exec_append ho hx hy hr) h
/-- The cells of values that lie in memory. -/
def VRs (w : World) (l : List V) (xs : List (Array Value)) : Prop := xs.length = l.length ∧ ∀ (j : Nat) (v : V), l[j]? = some v → ∃ x, xs[j]? = some x ∧ VRd w v x
theorem VRs.nil (w : World) : VRs w [] [] := ⟨rfl, fun j v h => by simp at h⟩
theorem VRd.size6 {w : World} {v : V} {x : Array Value} (h : VRd w v x) : x.size = 6 := by
  obtain ⟨_, _, _, _, rfl, _⟩ := h.open; rfl
theorem VRd.ones {w : World} {v : V} {x : Array Value} (h : VRd w v x) : ∀ u ∈ x.toList, u.oneCell' = true := by
  obtain ⟨_, _, _, _, rfl, _⟩ := h.open; simp [Value.oneCell']
theorem VRs.append {w : World} {l m : List V} {xs ys : List (Array Value)} (h : VRs w l xs) (g : VRs w m ys) : VRs w (l ++ m) (xs ++ ys) := by
  refine ⟨by simp [h.1, g.1], fun j v hv => ?_⟩
  by_cases hj : j < l.length
  · rw [List.getElem?_append_left hj] at hv
    obtain ⟨x, h1, h2⟩ := h.2 j v hv
    exact ⟨x, by rw [List.getElem?_append_left (by rw [h.1]; exact hj)]; exact h1, h2⟩
  · rw [List.getElem?_append_right (by omega)] at hv
    obtain ⟨x, h1, h2⟩ := g.2 _ v hv
    exact ⟨x, by rw [List.getElem?_append_right (by rw [h.1]; omega), h.1]; exact h1, h2⟩
theorem VRs.six {w : World} {l : List V} {xs : List (Array Value)} (h : VRs w l xs) : ∀ x ∈ xs, ∃ v, VRd w v x := by
  intro x hx
  obtain ⟨j, hj, rfl⟩ := List.getElem_of_mem hx
  have hj2 : j < l.length := by rw [← h.1]; exact hj
  obtain ⟨y, h1, h2⟩ := h.2 j _ (List.getElem?_eq_getElem hj2)
  rw [List.getElem?_eq_getElem hj] at h1
  cases h1
  exact ⟨_, h2⟩
theorem VRs.below {w w' : World} {l : List V} {xs : List (Array Value)} (h : VRs w l xs) (g : Below w.heap.size w w') : VRs w' l xs :=
  ⟨h.1, fun j v hv => by obtain ⟨x, h1, h2⟩ := h.2 j v hv; exact ⟨x, h1, h2.below g⟩⟩
theorem flatA_len {xs : List (Array Value)} (h6 : ∀ x ∈ xs, x.size = 6) : (xs.flatMap Array.toList).length = xs.length * 6 := by
  induction xs with
  | nil => rfl
  | cons a r ih =>
    rw [List.flatMap_cons, List.length_append, ih fun x hx => h6 x (by simp [hx])]
    have := h6 a (by simp)
    simp [this]; omega
/-- What lies at a slice, cell by cell. -/
theorem LRd.cells {w : World} {p : Option Addr} {c : Nat} {l : List V} (h : LRd w p c l) : ∃ xs, VRs w l xs ∧ ∀ ad, p = some ad → ∀ (j : Nat) (u : Value), (xs.flatMap Array.toList)[j]? = some u → w.cell? (ad.add j) = some u := by
  have hx : ∀ i : Nat, ∃ x : Array Value, ∀ (hi : i < l.length), VRd w l[i] x ∧ ∀ ad, p = some ad → ad.spot = none ∧ Six w ad.block (ad.off + i * 6) x := by
    intro i
    by_cases hi : i < l.length
    · obtain ⟨b, o, cs, rfl, h6, hv⟩ := h.get hi
      exact ⟨cs, fun _ => ⟨hv, fun ad e => by cases e; exact ⟨rfl, h6⟩⟩⟩
    · exact ⟨#[], fun h => absurd h hi⟩
  obtain ⟨f, hf⟩ := Classical.axiomOfChoice hx
  have hxs : VRs w l ((List.range l.length).map f) := by
    refine ⟨by simp, fun j v hv => ?_⟩
    obtain ⟨hj, rfl⟩ := List.getElem?_eq_some_iff.1 hv
    exact ⟨f j, by simp [hj], (hf j hj).1⟩
  refine ⟨_, hxs, fun ad had j u hu => ?_⟩
  have h6 : ∀ x ∈ (List.range l.length).map f, x.size = 6 := fun x hx => by obtain ⟨v, hv⟩ := hxs.six x hx; exact hv.size6
  have hlen := flatA_len h6
  have hj : j < l.length * 6 := by
    have := (List.getElem?_eq_some_iff.1 hu).1
    simpa [hlen] using this
  have hq : j / 6 < l.length := by omega
  have e : j = j / 6 * 6 + j % 6 := by omega
  have hfs := flat_six h6 (j / 6) (f (j / 6)) (by simp [hq]) (j % 6) (by omega)
  rw [← e, hu] at hfs
  obtain ⟨hsp, c0, c1, c2, c3, c4, c5, ex, q0, q1, q2, q3, q4, q5⟩ := (hf _ hq).2 ad had
  obtain ⟨b, o, sp⟩ := ad
  simp only at hsp q0 q1 q2 q3 q4 q5; subst hsp
  rw [addr_add]
  rw [ex] at hfs
  have hm : j % 6 = 0 ∨ j % 6 = 1 ∨ j % 6 = 2 ∨ j % 6 = 3 ∨ j % 6 = 4 ∨ j % 6 = 5 := by omega
  rcases hm with hm | hm | hm | hm | hm | hm
  all_goals
    rw [hm] at hfs e
    simp at hfs
    subst hfs
    rw [e]
    assumption
/-- Values that were appended so far. -/
def AInv (w W : World) (v : Value) (l : List V) : Prop := ∃ xs, OwnsP W (fun b => w.heap.size ≤ b) 26 6 v l.length (xs.flatMap Array.toList) ∧ VRs w l xs ∧ Below w.heap.size w W
theorem AInv.b {w W : World} {v : Value} {l : List V} (h : AInv w W v l) : Below w.heap.size w W := by obtain ⟨_, _, _, h⟩ := h; exact h
theorem AInv.slice {w W : World} {v : Value} {l : List V} (h : AInv w W v l) : ∃ p c, v = .slice p l.length c := by obtain ⟨_, h, _, _⟩ := h; exact slices_of h
theorem AInv.start {w W : World} (h : Below w.heap.size w W) : AInv w (W.alloc (.cells #[] 26)) (.slice (some ⟨W.heap.size, 0, none⟩) 0 0) [] :=
  ⟨[], ⟨ownsRow_of_heap (heap_alloc_new W _) (Nat.le_refl _) (by unfold maxLen; omega) rfl rfl rfl, fun g hg => by cases hg; exact h.size⟩, VRs.nil w, below_trans h (below_new _)⟩
theorem AInv.step {w W : World} {v : Value} {l m : List V} {p : Option Addr} {c : Nat} (h : AInv w W v l) (hm : LRd w p c m) (hn : l.length + m.length ≤ 1000000) (ty : TypeId) :
    ∃ v' W', (Builtin.append_ #[24, 24] ty #[v, .slice p m.length c]).run Tryz.prog W = .ok v' W' ∧ AInv w W' v' (l ++ m) := by
  obtain ⟨xs, h1, h2, h3⟩ := h
  obtain ⟨i, i1, i2, i3, i4⟩ := info_val
  obtain ⟨ys, hy, hcell⟩ := hm.cells
  have hy6 : ∀ x ∈ ys, x.size = 6 := fun x hx => by obtain ⟨v, hv⟩ := hy.six x hx; exact hv.size6
  cases p with
  | none =>
    have hc := hm.1.2.2 rfl
    have hl : m = [] := List.eq_nil_of_length_eq_zero (by have := hm.1.1; omega)
    subst hc hl
    refine ⟨v, W, append_law_nil (P := Tryz.prog) (w := W) 24 ty 26 i 6 Tryz.underlying24 i1 i3 v l.length _ h1.1, ?_⟩
    rw [List.append_nil]
    exact ⟨xs, h1, h2, h3⟩
  | some ad =>
    obtain ⟨v', W2, a1, a2, a3, a4, a5⟩ := append_law (P := Tryz.prog) (w := W) 24 ty 26 i _ 6 88 Tryz.underlying24 i1 i2 i3 i4 rfl v l.length _ h1.1 ad m.length c (ys.flatMap Array.toList)
      (by rw [flatA_len hy6, hy.1]) (fun j u hu => by
        have hq := hcell ad rfl j u hu
        have hne : m ≠ [] := by
          rintro rfl
          have e : ys = [] := List.eq_nil_of_length_eq_zero hy.1
          subst e
          simp at hu
        have hs := (hm.2 ad rfl).1 hne
        obtain ⟨b, o, sp⟩ := ad
        simp only at hs
        subst hs
        rw [addr_add] at hq ⊢
        exact belowCell h3 (ltOf hq) hq) (fun u hu => by
        obtain ⟨x, hx, hu⟩ := List.mem_flatMap.1 hu
        obtain ⟨v, hv⟩ := hy.six x hx
        exact hv.ones u hu) (by unfold maxLen; omega) (by omega)
    refine ⟨v', W2, a1, xs ++ ys, ⟨?_, fun g hg => ?_⟩, h2.append hy, ?_⟩
    · rw [List.flatMap_append, List.length_append]; exact a2
    · rcases a4 with e | e
      · exact h1.2 g (e.symm.trans hg)
      · rw [e] at hg; cases hg; exact h3.size
    · exact a3.below h3 (fun b hb e => by have := h1.2 b e; omega) h3.size
/-- What was appended is read. -/
theorem AInv.rd {w W : World} {v : Value} {l : List V} (h : AInv w W v l) (hn : l.length ≤ 1000000) : ∃ p c, v = .slice p l.length c ∧ LRd W p c l := by
  obtain ⟨xs, h1, h2, h3⟩ := h
  have hc := fun g => h1.1.cells (g := g)
  have h6 : ∀ x ∈ xs, x.size = 6 := fun x hx => by obtain ⟨v, hv⟩ := h2.six x hx; exact hv.size6
  rcases h1.1.2 with ⟨rfl, h0⟩ | ⟨g, cap, cur, rfl, _, hg, hnc, hcm, _⟩
  · have : l = [] := List.eq_nil_of_length_eq_zero h0
    subst this
    exact ⟨none, 0, rfl, ⟨Nat.le_refl _, ⟨by simp, by omega⟩, fun _ => rfl⟩, fun ad h => by cases h⟩
  · refine ⟨some ⟨g, 0, none⟩, cap, rfl, ⟨hnc, ⟨by omega, by unfold maxLen at hcm; omega⟩, fun h => by cases h⟩, fun ad had => ?_⟩
    cases had
    refine ⟨fun _ => rfl, fun j v hv => ?_⟩
    obtain ⟨x, hx, hvx⟩ := h2.2 j v hv
    have hv2 := hvx.below h3
    obtain ⟨_, _, _, _, rfl, _⟩ := hvx.open
    have q := fun (i : Nat) (hi : i < 6) => flat_six h6 j _ hx i hi
    refine ⟨_, ⟨_, _, _, _, _, _, rfl, ?_, ?_, ?_, ?_, ?_, ?_⟩, hv2⟩
    · have := hc g rfl _ _ (q 0 (by omega)); rw [addr_add] at this; simpa using this
    · have := hc g rfl _ _ (q 1 (by omega)); rw [addr_add] at this; simpa [Nat.add_assoc] using this
    · have := hc g rfl _ _ (q 2 (by omega)); rw [addr_add] at this; simpa [Nat.add_assoc] using this
    · have := hc g rfl _ _ (q 3 (by omega)); rw [addr_add] at this; simpa [Nat.add_assoc] using this
    · have := hc g rfl _ _ (q 4 (by omega)); rw [addr_add] at this; simpa [Nat.add_assoc] using this
    · have := hc g rfl _ _ (q 5 (by omega)); rw [addr_add] at this; simpa [Nat.add_assoc] using this
end Go.Proofs.YtnkaegdnjfpliaaGreatDoor
