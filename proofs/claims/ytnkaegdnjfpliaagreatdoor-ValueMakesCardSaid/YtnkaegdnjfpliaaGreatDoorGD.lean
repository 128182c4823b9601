/- Texts that the proofs of this layer share. -/
import Derived.Test.YtnkaegdnjfpliaaGreatDoorGB
import Derived.Test.YtnkaegdnjfpliaaGreatDoorGC
/-! Values appended behind values. -/
namespace Go.Proofs.YtnkaegdnjfpliaaGreatDoor
set_option linter.unusedSimpArgs false
set_option linter.unusedVariables false
open Go.RowKit

theorem wpList_runG {P : Program} {ops : Array Oper} {rest : List Oper} {o : Oper} {a : Act} {w w' : World} {v : Value} {Q : Exit → Act → World → Prop} (hw : Region.wanted o (yielded ops a.tmps) = true) (hr : (execOp a.eval o).run P w = .ok (.value v) w') (h : wpList P ops Q rest (a.put o.dst v) w') : wpList P ops Q (o :: rest) a w := by
  unfold wpList
  rw [if_pos hw]
  exact .inl (by unfold Oper.wp; rw [hr]; exact h)
/-- An append whose guard says yes. -/
theorem wpList_appendG {P : Program} {ops : Array Oper} {rest : List Oper} {o : Oper} {a : Act} {w w' : World} {v : Value} {Q : Exit → Act → World → Prop} {x y : Operand} {t u : TypeId} {vx vy : Value} (hw : Region.wanted o (yielded ops a.tmps) = true) (ho : o.op = .call { callee := .builtin .append, args := #[x, y], argTypes := #[t, u] }) (hx : a.eval x = vx) (hy : a.eval y = vy)
    (hr : (Builtin.append_ #[t, u] o.type #[vx, vy]).run P w = .ok v w') (h : wpList P ops Q rest (a.put o.dst v) w') : wpList P ops Q (o :: rest) a w := wpList_runG hw (exec_append ho hx hy hr) h
/-- The cells of values that lie in memory. -/
def VRs (w : World) (l : List V) (xs : List (Array Value)) : Prop := xs.length = l.length ∧ ∀ (j : Nat) (v : V), l[j]? = some v → ∃ x, xs[j]? = some x ∧ VRd w v x
theorem VRs.nil (w : World) : VRs w [] [] := ⟨rfl, fun j v h => by simp at h⟩
theorem VRd.size6 {w : World} {v : V} {x : Array Value} (h : VRd w v x) : x.size = 6 := by
  obtain ⟨_, _, _, _, rfl, _⟩ := h.open; rfl
theorem VRd.ones {w : World} {v : V} {x : Array Value} (h : VRd w v x) : ∀ u ∈ x.toList, u.oneCell' = true := by
  obtain ⟨_, _, _, _, rfl, _⟩ := h.open; simp [Value.oneCell']
theorem VRs.append {w : World} {l m : List V} {xs ys : List (Array Value)} (h : VRs w l xs) (g : VRs w m ys) : VRs w (l ++ m) (xs ++ ys) := by
  refine ⟨by simp [h.1, g.1], fun j v hv => ?_⟩
  by_cases hj : j < l.length
  · rw [List.getElem?_append_left hj] at hv
    obtain ⟨x, h1, h2⟩ := h.2 j v hv
    exact ⟨x, by rw [List.getElem?_append_left (by rw [h.1]; exact hj)]; exact h1, h2⟩
  · rw [List.getElem?_append_right (by omega)] at hv
    obtain ⟨x, h1, h2⟩ := g.2 _ v hv
    exact ⟨x, by rw [List.getElem?_append_right (by rw [h.1]; omega), h.1]; exact h1, h2⟩
theorem VRs.six {w : World} {l : List V} {xs : List (Array Value)} (h : VRs w l xs) : ∀ x ∈ xs, ∃ v, VRd w v x := by
  intro x hx
  obtain ⟨j, hj, rfl⟩ := List.getElem_of_mem hx
  have hj2 : j < l.length := by rw [← h.1]; exact hj
  obtain ⟨y, h1, h2⟩ := h.2 j _ (List.getElem?_eq_getElem hj2)
  rw [List.getElem?_eq_getElem hj] at h1
  cases h1
  exact ⟨_, h2⟩
theorem VRs.below {w w' : World} {l : List V} {xs : List (Array Value)} (h : VRs w l xs) (g : Below w.heap.size w w') : VRs w' l xs :=
  ⟨h.1, fun j v hv => by obtain ⟨x, h1, h2⟩ := h.2 j v hv; exact ⟨x, h1, h2.below g⟩⟩
theorem flatA_len {xs : List (Array Value)} (h6 : ∀ x ∈ xs, x.size = 6) : (xs.flatMap Array.toList).length = xs.length * 6 := by
  induction xs with
  | nil => rfl
  | cons a r ih =>
    rw [List.flatMap_cons, List.length_append, ih fun x hx => h6 x (by simp [hx])]
    have := h6 a (by simp)
    simp [this]; omega
/-- What lies at a slice, cell by cell. -/
theorem LRd.cells {w : World} {p : Option Addr} {c : Nat} {l : List V} (h : LRd w p c l) : ∃ xs, VRs w l xs ∧ ∀ ad, p = some ad → ∀ (j : Nat) (u : Value), (xs.flatMap Array.toList)[j]? = some u → w.cell? (ad.add j) = some u := by
  have hx : ∀ i : Nat, ∃ x : Array Value, ∀ (hi : i < l.length), VRd w l[i] x ∧ ∀ ad, p = some ad → ad.spot = none ∧ Six w ad.block (ad.off + i * 6) x := by
    intro i
    by_cases hi : i < l.length
    · obtain ⟨b, o, cs, rfl, h6, hv⟩ := h.get hi
      exact ⟨cs, fun _ => ⟨hv, fun ad e => by cases e; exact ⟨rfl, h6⟩⟩⟩
    · exact ⟨#[], fun h => absurd h hi⟩
  obtain ⟨f, hf⟩ := Classical.axiomOfChoice hx
  have hxs : VRs w l ((List.range l.length).map f) := by
    refine ⟨by simp, fun j v hv => ?_⟩
    obtain ⟨hj, rfl⟩ := List.getElem?_eq_some_iff.1 hv
    exact ⟨f j, by simp [hj], (hf j hj).1⟩
  refine ⟨_, hxs, fun ad had j u hu => ?_⟩
  have h6 : ∀ x ∈ (List.range l.length).map f, x.size = 6 := fun x hx => by obtain ⟨v, hv⟩ := hxs.six x hx; exact hv.size6
  have hlen := flatA_len h6
  have hj : j < l.length * 6 := by
    have := (List.getElem?_eq_some_iff.1 hu).1
    simpa [hlen] using this
  have hq : j / 6 < l.length := by omega
  have e : j = j / 6 * 6 + j % 6 := by omega
  have hfs := flat_six h6 (j / 6) (f (j / 6)) (by simp [hq]) (j % 6) (by omega)
  rw [← e, hu] at hfs
  obtain ⟨hsp, c0, c1, c2, c3, c4, c5, ex, q0, q1, q2, q3, q4, q5⟩ := (hf _ hq).2 ad had
  obtain ⟨b, o, sp⟩ := ad
  simp only at hsp q0 q1 q2 q3 q4 q5; subst hsp
  rw [addr_add]
  rw [ex] at hfs
  have hm : j % 6 = 0 ∨ j % 6 = 1 ∨ j % 6 = 2 ∨ j % 6 = 3 ∨ j % 6 = 4 ∨ j % 6 = 5 := by omega
  rcases hm with hm | hm | hm | hm | hm | hm
  all_goals
    rw [hm] at hfs e
    simp at hfs
    subst hfs
    rw [e]
    assumption
/-- Values that were appended so far. -/
def AInv (w W : World) (v : Value) (l : List V) : Prop := ∃ xs, OwnsP W (fun b => w.heap.size ≤ b) 26 6 v l.length (xs.flatMap Array.toList) ∧ VRs w l xs ∧ Below w.heap.size w W
theorem AInv.b {w W : World} {v : Value} {l : List V} (h : AInv w W v l) : Below w.heap.size w W := by obtain ⟨_, _, _, h⟩ := h; exact h
theorem AInv.slice {w W : World} {v : Value} {l : List V} (h : AInv w W v l) : ∃ p c, v = .slice p l.length c := by obtain ⟨_, h, _, _⟩ := h; exact slices_of h
theorem AInv.start {w W : World} (h : Below w.heap.size w W) : AInv w (W.alloc (.cells #[] 26)) (.slice (some ⟨W.heap.size, 0, none⟩) 0 0) [] :=
  ⟨[], ⟨ownsRow_of_heap (heap_alloc_new W _) (Nat.le_refl _) (by unfold maxLen; omega) rfl rfl rfl, fun g hg => by cases hg; exact h.size⟩, VRs.nil w, below_trans h (below_new _)⟩
theorem AInv.step {w W : World} {v : Value} {l m : List V} {p : Option Addr} {c : Nat} (h : AInv w W v l) (hm : LRd w p c m) (hn : l.length + m.length ≤ 1000000) (ty : TypeId) :
    ∃ v' W', (Builtin.append_ #[24, 24] ty #[v, .slice p m.length c]).run Tryz.prog W = .ok v' W' ∧ AInv w W' v' (l ++ m) := by
  obtain ⟨xs, h1, h2, h3⟩ := h
  obtain ⟨i, i1, i2, i3, i4⟩ := info_val
  obtain ⟨ys, hy, hcell⟩ := hm.cells
  have hy6 : ∀ x ∈ ys, x.size = 6 := fun x hx => by obtain ⟨v, hv⟩ := hy.six x hx; exact hv.size6
  cases p with
  | none =>
    have hc := hm.1.2.2 rfl
    have hl : m = [] := List.eq_nil_of_length_eq_zero (by have := hm.1.1; omega)
    subst hc hl
    refine ⟨v, W, append_law_nil (P := Tryz.prog) (w := W) 24 ty 26 i 6 Tryz.underlying24 i1 i3 v l.length _ h1.1, ?_⟩
    rw [List.append_nil]
    exact ⟨xs, h1, h2, h3⟩
  | some ad =>
    obtain ⟨v', W2, a1, a2, a3, a4, a5⟩ := append_law (P := Tryz.prog) (w := W) 24 ty 26 i _ 6 88 Tryz.underlying24 i1 i2 i3 i4 rfl v l.length _ h1.1 ad m.length c (ys.flatMap Array.toList)
      (by rw [flatA_len hy6, hy.1]) (fun j u hu => by
        have hq := hcell ad rfl j u hu
        have hne : m ≠ [] := by
          rintro rfl
          have e : ys = [] := List.eq_nil_of_length_eq_zero hy.1
          subst e
          simp at hu
        have hs := (hm.2 ad rfl).1 hne
        obtain ⟨b, o, sp⟩ := ad
        simp only at hs
        subst hs
        rw [addr_add] at hq ⊢
        exact belowCell h3 (ltOf hq) hq) (fun u hu => by
        obtain ⟨x, hx, hu⟩ := List.mem_flatMap.1 hu
        obtain ⟨v, hv⟩ := hy.six x hx
        exact hv.ones u hu) (by unfold maxLen; omega) (by omega)
    refine ⟨v', W2, a1, xs ++ ys, ⟨?_, fun g hg => ?_⟩, h2.append hy, ?_⟩
    · rw [List.flatMap_append, List.length_append]; exact a2
    · rcases a4 with e | e
      · exact h1.2 g (e.symm.trans hg)
      · rw [e] at hg; cases hg; exact h3.size
    · exact a3.below h3 (fun b hb e => by have := h1.2 b e; omega) h3.size
/-- What was appended is read. -/
theorem AInv.rd {w W : World} {v : Value} {l : List V} (h : AInv w W v l) (hn : l.length ≤ 1000000) : ∃ p c, v = .slice p l.length c ∧ LRd W p c l := by
  obtain ⟨xs, h1, h2, h3⟩ := h
  have hc := fun g => h1.1.cells (g := g)
  have h6 : ∀ x ∈ xs, x.size = 6 := fun x hx => by obtain ⟨v, hv⟩ := h2.six x hx; exact hv.size6
  rcases h1.1.2 with ⟨rfl, h0⟩ | ⟨g, cap, cur, rfl, _, hg, hnc, hcm, _⟩
  · have : l = [] := List.eq_nil_of_length_eq_zero h0
    subst this
    exact ⟨none, 0, rfl, ⟨Nat.le_refl _, ⟨by simp, by omega⟩, fun _ => rfl⟩, fun ad h => by cases h⟩
  · refine ⟨some ⟨g, 0, none⟩, cap, rfl, ⟨hnc, ⟨by omega, by unfold maxLen at hcm; omega⟩, fun h => by cases h⟩, fun ad had => ?_⟩
    cases had
    refine ⟨fun _ => rfl, fun j v hv => ?_⟩
    obtain ⟨x, hx, hvx⟩ := h2.2 j v hv
    have hv2 := hvx.below h3
    obtain ⟨_, _, _, _, rfl, _⟩ := hvx.open
    have q := fun (i : Nat) (hi : i < 6) => flat_six h6 j _ hx i hi
    refine ⟨_, ⟨_, _, _, _, _, _, rfl, ?_, ?_, ?_, ?_, ?_, ?_⟩, hv2⟩
    · have := hc g rfl _ _ (q 0 (by omega)); rw [addr_add] at this; simpa using this
    · have := hc g rfl _ _ (q 1 (by omega)); rw [addr_add] at this; simpa [Nat.add_assoc] using this
    · have := hc g rfl _ _ (q 2 (by omega)); rw [addr_add] at this; simpa [Nat.add_assoc] using this
    · have := hc g rfl _ _ (q 3 (by omega)); rw [addr_add] at this; simpa [Nat.add_assoc] using this
    · have := hc g rfl _ _ (q 4 (by omega)); rw [addr_add] at this; simpa [Nat.add_assoc] using this
    · have := hc g rfl _ _ (q 5 (by omega)); rw [addr_add] at this; simpa [Nat.add_assoc] using this
end Go.Proofs.YtnkaegdnjfpliaaGreatDoor

/-! Values with something to spare behind their rows: what the law's copied makes. -/
namespace Go.Proofs.YtnkaegdnjfpliaaGreatDoor
set_option linter.unusedSimpArgs false
set_option linter.unusedVariables false
open Go.RowKit

/-- What lies behind the keys; what lies behind the list. -/
def spareB : List UInt8 := [115, 112, 97, 114, 101]
def sentX : Array Value := #[.int .i64 77, .bool false, .int .i64 0, .string ⟨#[]⟩, .slice none 0 0, .slice none 0 0]
mutual
/-- Six cells' values are a value, in memory of blocks of P, and behind each of its rows lies a spare element. -/
def VSp (w : World) (P : Nat → Prop) : V → Array Value → Prop
  | .mk k b n t ks l, cs => ∃ g c g2 c2 xs, cs = #[.int .i64 k, .bool b, .int .i64 n, .string (strB t), .slice (some ⟨g, 0, none⟩) ks.length c, .slice (some ⟨g2, 0, none⟩) l.length c2] ∧
      OwnsP w P 9 1 (.slice (some ⟨g, 0, none⟩) (ks.length + 1) c) (ks.length + 1) (ks.map strV ++ [strV spareB]) ∧
      OwnsP w P 26 6 (.slice (some ⟨g2, 0, none⟩) (l.length + 1) c2) (l.length + 1) (xs.flatMap Array.toList ++ sentX.toList) ∧ VSps w P l xs
def VSps (w : World) (P : Nat → Prop) : List V → List (Array Value) → Prop
  | [], xs => xs = []
  | v :: r, xs => ∃ x q, xs = x :: q ∧ VSp w P v x ∧ VSps w P r q
end
theorem VSp_iff {w : World} {P : Nat → Prop} {k : Int} {b : Bool} {n : Int} {t : List UInt8} {ks : List (List UInt8)} {l : List V} {cs : Array Value} : VSp w P (.mk k b n t ks l) cs ↔
    ∃ g c g2 c2 xs, cs = #[.int .i64 k, .bool b, .int .i64 n, .string (strB t), .slice (some ⟨g, 0, none⟩) ks.length c, .slice (some ⟨g2, 0, none⟩) l.length c2] ∧
      OwnsP w P 9 1 (.slice (some ⟨g, 0, none⟩) (ks.length + 1) c) (ks.length + 1) (ks.map strV ++ [strV spareB]) ∧
      OwnsP w P 26 6 (.slice (some ⟨g2, 0, none⟩) (l.length + 1) c2) (l.length + 1) (xs.flatMap Array.toList ++ sentX.toList) ∧ VSps w P l xs := by rw [VSp]
theorem VSp.size6 {w : World} {P : Nat → Prop} {v : V} {x : Array Value} (h : VSp w P v x) : x.size = 6 := by
  cases v; obtain ⟨_, _, _, _, _, rfl, _⟩ := VSp_iff.1 h; rfl
theorem VSp.ones {w : World} {P : Nat → Prop} {v : V} {x : Array Value} (h : VSp w P v x) : ∀ u ∈ x.toList, u.oneCell' = true := by
  cases v; obtain ⟨_, _, _, _, _, rfl, _⟩ := VSp_iff.1 h; simp [Value.oneCell']
theorem VSps_snoc {w : World} {P : Nat → Prop} : ∀ {l : List V} {xs : List (Array Value)} {v : V} {x : Array Value}, VSps w P l xs → VSp w P v x → VSps w P (l ++ [v]) (xs ++ [x]) := by
  intro l
  induction l with
  | nil =>
    intro xs v x h hv
    rw [VSps] at h; subst h
    exact ⟨x, [], rfl, hv, rfl⟩
  | cons a r ih =>
    intro xs v x h hv
    obtain ⟨y, q, rfl, h1, h2⟩ := h
    exact ⟨y, q ++ [x], rfl, h1, ih h2 hv⟩
theorem VSps_get {w : World} {P : Nat → Prop} : ∀ {l : List V} {xs : List (Array Value)}, VSps w P l xs → ∀ (j : Nat) (v : V), l[j]? = some v → ∃ x, xs[j]? = some x ∧ VSp w P v x := by
  intro l
  induction l with
  | nil => intro xs _ j v hv; simp at hv
  | cons a r ih =>
    intro xs h j v hv
    obtain ⟨y, q, rfl, h1, h2⟩ := h
    cases j with
    | zero => simp only [List.getElem?_cons_zero, Option.some.injEq] at hv; subst hv; exact ⟨y, rfl, h1⟩
    | succ j => exact ih h2 j v (by simpa using hv)
theorem VSps.six {w : World} {P : Nat → Prop} : ∀ {l : List V} {xs : List (Array Value)}, VSps w P l xs → ∀ x ∈ xs, x.size = 6 := by
  intro l
  induction l with
  | nil => intro xs h; rw [VSps] at h; subst h; simp
  | cons a r ih =>
    intro xs h x hx
    obtain ⟨y, q, rfl, g1, g2⟩ := h
    rcases List.mem_cons.1 hx with rfl | hx
    · exact g1.size6
    · exact ih g2 x hx
theorem VSps.len {w : World} {P : Nat → Prop} : ∀ {l : List V} {xs : List (Array Value)}, VSps w P l xs → xs.length = l.length := by
  intro l
  induction l with
  | nil => intro xs h; rw [VSps] at h; subst h; rfl
  | cons a r ih =>
    intro xs h
    obtain ⟨y, q, rfl, g1, g2⟩ := h
    simp [ih g2]
theorem VSp.keep {w w' : World} {P : Nat → Prop} (hk : ∀ b, P b → b < w.heap.size → w'.heap[b]? = w.heap[b]?) : ∀ {v : V} {x : Array Value}, VSp w P v x → VSp w' P v x := by
  intro v
  refine V.ind (P := fun v => ∀ {x : Array Value}, VSp w P v x → VSp w' P v x) (fun k b n t ks l ih x h => ?_) v
  obtain ⟨g, c, g2, c2, xs, e, h1, h2, h3⟩ := VSp_iff.1 h
  refine VSp_iff.2 ⟨g, c, g2, c2, xs, e, h1.keep hk, h2.keep hk, ?_⟩
  clear h h1 h2 e
  induction l generalizing xs with
  | nil => exact h3
  | cons a r ihr =>
    obtain ⟨y, q, rfl, g1, g2⟩ := h3
    exact ⟨y, q, rfl, ih a (by simp) g1, ihr (fun v hv => ih v (by simp [hv])) q g2⟩
theorem VSps.keep {w w' : World} {P : Nat → Prop} (hk : ∀ b, P b → b < w.heap.size → w'.heap[b]? = w.heap[b]?) : ∀ {l : List V} {xs : List (Array Value)}, VSps w P l xs → VSps w' P l xs := by
  intro l
  induction l with
  | nil => intro xs h; exact h
  | cons a r ih =>
    intro xs h
    obtain ⟨y, q, rfl, g1, g2⟩ := h
    exact ⟨y, q, rfl, g1.keep hk, ih g2⟩
theorem VSp.below {w w' : World} {P : Nat → Prop} {v : V} {x : Array Value} (h : VSp w P v x) (g : Below w.heap.size w w') : VSp w' P v x := h.keep fun b _ hb => g.block b hb
theorem VSps.below {w w' : World} {P : Nat → Prop} {l : List V} {xs : List (Array Value)} (h : VSps w P l xs) (g : Below w.heap.size w w') : VSps w' P l xs := h.keep fun b _ hb => g.block b hb
theorem VSp.imp {w : World} {P P' : Nat → Prop} (hp : ∀ b, b < w.heap.size → P b → P' b) : ∀ {v : V} {x : Array Value}, VSp w P v x → VSp w P' v x := by
  intro v
  refine V.ind (P := fun v => ∀ {x : Array Value}, VSp w P v x → VSp w P' v x) (fun k b n t ks l ih x h => ?_) v
  obtain ⟨g, c, g2, c2, xs, e, h1, h2, h3⟩ := VSp_iff.1 h
  refine VSp_iff.2 ⟨g, c, g2, c2, xs, e, h1.imp hp, h2.imp hp, ?_⟩
  clear h h1 h2 e
  induction l generalizing xs with
  | nil => exact h3
  | cons a r ihr =>
    obtain ⟨y, q, rfl, g1, g2⟩ := h3
    exact ⟨y, q, rfl, ih a (by simp) g1, ihr (fun v hv => ih v (by simp [hv])) q g2⟩
theorem VSps.imp {w : World} {P P' : Nat → Prop} (hp : ∀ b, b < w.heap.size → P b → P' b) : ∀ {l : List V} {xs : List (Array Value)}, VSps w P l xs → VSps w P' l xs := by
  intro l
  induction l with
  | nil => intro xs h; exact h
  | cons a r ih =>
    intro xs h
    obtain ⟨y, q, rfl, g1, g2⟩ := h
    exact ⟨y, q, rfl, g1.imp hp, ih g2⟩
/-- Keys with one to spare are read; so is the one to spare. -/
theorem spare_rdS {w : World} {P : Nat → Prop} {g c : Nat} {l : List (List UInt8)} (h : OwnsP w P 9 1 (.slice (some ⟨g, 0, none⟩) (l.length + 1) c) (l.length + 1) (l.map strV ++ [strV spareB])) (h1 : l.length ≤ 1000000) (h2 : ∀ s ∈ l, s.length ≤ 140737488355328) :
    RdS w (some ⟨g, 0, none⟩) c l ∧ l.length + 1 ≤ c ∧ w.cell? ⟨g, l.length, none⟩ = some (.string (strB spareB)) := by
  have hc := h.1.cells (g := g) rfl
  rcases h.1.2 with ⟨e, _⟩ | ⟨g', cap, cur, e, _, hg, hnc, hcm, _⟩
  · cases e
  · cases e
    refine ⟨⟨by omega, ⟨by omega, by unfold maxLen at hcm; omega⟩, fun h => (by cases h), h2, fun ad had => ?_⟩, hnc, ?_⟩
    · cases had
      refine ⟨fun _ => rfl, fun i s hs => ?_⟩
      have hi := (List.getElem?_eq_some_iff.1 hs).1
      have := hc i (strV s) (by rw [List.getElem?_append_left (by simpa using hi)]; simp [hs])
      rw [addr_add] at this
      simpa [strV] using this
    · have := hc l.length (strV spareB) (by rw [List.getElem?_append_right (by simp)]; simp)
      rw [addr_add] at this
      simpa [strV] using this
/-- A value with something to spare, laid open: it is read, and what is to spare lies there. -/
theorem VSp.open {w : World} {P : Nat → Prop} : ∀ {v : V} {x : Array Value}, VSp w P v x → totV v ≤ 1000000 → VRd w v x := by
  intro v
  refine V.ind (P := fun v => ∀ {x : Array Value}, VSp w P v x → totV v ≤ 1000000 → VRd w v x) (fun k b n t ks l ih x h ht => ?_) v
  rw [totV_mk] at ht
  obtain ⟨g1, c1, g, cap, xs, rfl, h1, h2, h3⟩ := VSp_iff.1 h
  obtain ⟨hk, _, _⟩ := spare_rdS h1 (by omega) (fun s hs => by have := sum_mem hs; omega)
  have hlen := totVs_length l
  have h6 := h3.six
  have hc := h2.1.cells (g := g) rfl
  have hget := VSps_get h3
  have hfl := flatA_len h6
  rw [h3.len] at hfl
  rcases h2.1.2 with ⟨e, _⟩ | ⟨g', cap', cur, e, _, hg, hnc, hcm, _⟩
  · cases e
  · cases e
    refine VRd_iff.2 ⟨_, _, some ⟨g, 0, none⟩, cap, rfl, by omega, hk, ⟨by omega, ⟨by omega, by unfold maxLen at hcm; omega⟩, fun h => by cases h⟩, fun ad had => ?_⟩
    cases had
    refine ⟨fun _ => rfl, fun j v hv => ?_⟩
    have hj := (List.getElem?_eq_some_iff.1 hv).1
    obtain ⟨x, hx, hown⟩ := hget j v hv
    have hr := ih v (List.mem_of_getElem? hv) hown (by have := totVs_mem (List.mem_of_getElem? hv); omega)
    obtain ⟨pk2, ck2, pl2, cl2, rfl, _⟩ := hr.open
    have cell : ∀ i u, i < 6 → (#[Value.int .i64 v.kind, .bool v.b, .int .i64 v.n, .string (strB v.text), .slice pk2 v.keys.length ck2, .slice pl2 v.list.length cl2] : Array Value)[i]? = some u → w.cell? ⟨g, 0 + j * 6 + i, none⟩ = some u := by
      intro i u hi hu
      have := hc (j * 6 + i) u (by rw [List.getElem?_append_left (by rw [hfl]; omega), flat_six h6 j _ hx i hi]; exact hu)
      rw [addr_add] at this
      rw [Nat.zero_add] at this ⊢
      exact this
    exact ⟨_, ⟨_, _, _, _, _, _, rfl, cell 0 _ (by omega) rfl, cell 1 _ (by omega) rfl, cell 2 _ (by omega) rfl, cell 3 _ (by omega) rfl, cell 4 _ (by omega) rfl, cell 5 _ (by omega) rfl⟩, hr⟩
/-- What the law's kept asks of a value with something to spare. -/
theorem VSp.facts {w : World} {P : Nat → Prop} {k : Int} {b : Bool} {n : Int} {t : List UInt8} {ks : List (List UInt8)} {l : List V} {cs : Array Value} (h : VSp w P (.mk k b n t ks l) cs) (ht : totV (.mk k b n t ks l) ≤ 1000000) :
    ∃ g c g2 c2, cs = #[.int .i64 k, .bool b, .int .i64 n, .string (strB t), .slice (some ⟨g, 0, none⟩) ks.length c, .slice (some ⟨g2, 0, none⟩) l.length c2] ∧
      (ks.length + 1 ≤ c ∧ w.cell? ⟨g, ks.length, none⟩ = some (.string (strB spareB))) ∧ (l.length + 1 ≤ c2 ∧ c2 ≤ 9223372036854775807 ∧ w.cell? ⟨g2, l.length * 6, none⟩ = some (.int .i64 77)) ∧
      ∀ (j : Nat) (v : V), l[j]? = some v → ∃ x, Six w g2 (j * 6) x ∧ VSp w P v x := by
  rw [totV_mk] at ht
  obtain ⟨g, c, g2, c2, xs, rfl, h1, h2, h3⟩ := VSp_iff.1 h
  obtain ⟨_, a1, a2⟩ := spare_rdS h1 (by omega) (fun s hs => by have := sum_mem hs; omega)
  have h6 := h3.six
  have hc := h2.1.cells (g := g2) rfl
  have hget := VSps_get h3
  have hfl := flatA_len h6
  rw [h3.len] at hfl
  refine ⟨g, c, g2, c2, rfl, ⟨a1, a2⟩, ⟨?_, ?_, ?_⟩, fun j v hv => ?_⟩
  · rcases h2.1.2 with ⟨e, _⟩ | ⟨g', cap', cur, e, _, hg, hnc, hcm, _⟩
    · cases e
    · cases e; exact hnc
  · rcases h2.1.2 with ⟨e, _⟩ | ⟨g', cap', cur, e, _, hg, hnc, hcm, _⟩
    · cases e
    · cases e; unfold maxLen at hcm; omega
  · have := hc (l.length * 6) (.int .i64 77) (by rw [List.getElem?_append_right (by rw [hfl]; omega), hfl]; simp [sentX])
    rw [addr_add] at this
    simpa using this
  · have hj := (List.getElem?_eq_some_iff.1 hv).1
    obtain ⟨x, hx, hown⟩ := hget j v hv
    refine ⟨x, ?_, hown⟩
    have hs := hown.size6
    have cell : ∀ i u, i < 6 → x[i]? = some u → w.cell? ⟨g2, j * 6 + i, none⟩ = some u := by
      intro i u hi hu
      have := hc (j * 6 + i) u (by rw [List.getElem?_append_left (by rw [hfl]; omega), flat_six h6 j _ hx i hi]; exact hu)
      rw [addr_add, Nat.zero_add] at this
      exact this
    have hl6 : x.toList.length = 6 := by simpa using hs
    match hx2 : x, hs with
    | ⟨[u0, u1, u2, u3, u4, u5]⟩, _ => exact ⟨_, _, _, _, _, _, rfl, cell 0 _ (by omega) rfl, cell 1 _ (by omega) rfl, cell 2 _ (by omega) rfl, cell 3 _ (by omega) rfl, cell 4 _ (by omega) rfl, cell 5 _ (by omega) rfl⟩
end Go.Proofs.YtnkaegdnjfpliaaGreatDoor

/-! What the law's copied appends: keys behind keys, copies behind copies, and the one to spare. -/
namespace Go.Proofs.YtnkaegdnjfpliaaGreatDoor
set_option linter.unusedSimpArgs false
set_option linter.unusedVariables false
open Go.RowKit

/-- Keys behind keys. -/
theorem append_keys {w W : World} {n0 : Nat} {v : Value} {l m : List (List UInt8)} {p : Option Addr} {c : Nat} (h : OwnsP W (fun b => n0 ≤ b) 9 1 v l.length (l.map strV)) (hm : RdS W p c m) (hn : l.length + m.length ≤ 1000000) (h0 : n0 ≤ W.heap.size) (ty : TypeId) :
    ∃ v' W', (Builtin.append_ #[23, 23] ty #[v, .slice p m.length c]).run Tryz.prog W = .ok v' W' ∧ OwnsP W' (fun b => n0 ≤ b) 9 1 v' (l ++ m).length ((l ++ m).map strV) ∧ Touch (fun b => v.ownBlock = some b) W W' ∧
      (v'.ownBlock = v.ownBlock ∨ v'.ownBlock = some W.heap.size) ∧ W.heap.size ≤ W'.heap.size := by
  obtain ⟨i, i1, i2, i3, i4⟩ := info_str
  cases p with
  | none =>
    have hc := hm.2.2.1 rfl
    have hl : m = [] := List.eq_nil_of_length_eq_zero (by have := hm.1; omega)
    subst hc hl
    refine ⟨v, W, append_law_nil (P := Tryz.prog) (w := W) 23 ty 9 i 1 Tryz.underlying23 i1 i3 v l.length _ h.1, ?_, Touch.refl _ _, .inl rfl, Nat.le_refl _⟩
    rw [List.append_nil]
    exact h
  | some ad =>
    obtain ⟨v', W2, a1, a2, a3, a4, a5⟩ := append_law (P := Tryz.prog) (w := W) 23 ty 9 i _ 1 16 Tryz.underlying23 i1 i2 i3 i4 rfl v l.length _ h.1 ad m.length c (m.map strV)
      (by simp) (fun j u hu => by
        rw [List.getElem?_map] at hu
        obtain ⟨s, hs, rfl⟩ := Option.map_eq_some_iff.1 hu
        have hne : m ≠ [] := by rintro rfl; simp at hs
        obtain ⟨hsp, hcell⟩ := hm.2.2.2.2 ad rfl
        have hsp := hsp hne
        have hq := hcell j s hs
        obtain ⟨b, o, sp⟩ := ad
        simp only at hsp hq
        subst hsp
        rw [addr_add]
        exact hq) (fun u hu => by
        obtain ⟨s, _, rfl⟩ := List.mem_map.1 hu
        rfl) (by unfold maxLen; omega) (by omega)
    refine ⟨v', W2, a1, ⟨?_, fun g hg => ?_⟩, a3, a4, a5⟩
    · rw [List.length_append, List.map_append]; exact a2
    · rcases a4 with e | e
      · exact h.2 g (e.symm.trans hg)
      · rw [e] at hg; cases hg; exact h0
/-- Copies so far: in blocks from n0 on; none of theirs is the row's own. -/
def CpI (n0 : Nat) (W : World) (ov : Value) (m : List V) : Prop := ∃ xs, OwnsP W (fun b => n0 ≤ b) 26 6 ov m.length (xs.flatMap Array.toList) ∧ VSps W (fun b => n0 ≤ b ∧ ov.ownBlock ≠ some b) m xs
theorem CpI.below {n0 : Nat} {W W' : World} {ov : Value} {m : List V} (h : CpI n0 W ov m) (g : Below W.heap.size W W') : CpI n0 W' ov m := by
  obtain ⟨xs, h1, h2⟩ := h
  exact ⟨xs, h1.keep fun b _ hb => g.block b hb, h2.below g⟩
theorem CpI.start (n0 : Nat) (W : World) : CpI n0 W (.slice none 0 0) [] := ⟨[], ⟨⟨rfl, .inl ⟨rfl, rfl⟩⟩, fun g hg => by simp [Value.ownBlock] at hg⟩, rfl⟩
/-- One more copy. -/
theorem CpI.step {n0 : Nat} {W W1 : World} {ov : Value} {m : List V} {v : V} {x : Array Value} {base : Nat} (h : CpI n0 W ov m) (h0 : n0 ≤ W.heap.size) (hbase : W.heap.size ≤ base) (hb : Below W.heap.size W W1) (hx : VSp W1 (fun b => base ≤ b) v x) (hm : m.length ≤ 1000000) (ty : TypeId) :
    ∃ v' W2, (Builtin.append_ #[24, 24] ty #[ov, .slice (some ⟨W1.heap.size, 0, none⟩) 1 1]).run Tryz.prog (W1.alloc (.cells x 26)) = .ok v' W2 ∧ CpI n0 W2 v' (m ++ [v]) ∧ Below n0 W W2 := by
  have hnew : Below W1.heap.size W1 (W1.alloc (.cells x 26)) := below_new _
  have hlt : ∀ g, ov.ownBlock = some g → g < W.heap.size := by
    obtain ⟨xs, h1, _⟩ := h
    exact fun g hg => (h1.1.lt g hg).2
  have hWn : Below n0 W (W1.alloc (.cells x 26)) := (below_trans hb hnew).mono h0
  obtain ⟨xs, h1, h2⟩ := (h.below hb).below hnew
  have hx' := hx.below hnew
  obtain ⟨v', W2, a1, a2, a3, a4, a5⟩ := append_val h1.1 hx.size6 hx.ones (heap_alloc_new W1 _) hm ty
  have hW1 := hb.size
  refine ⟨v', W2, a1, ⟨xs ++ [x], ⟨?_, fun g hg => ?_⟩, ?_⟩, ?_⟩
  · rw [List.flatMap_append, List.length_append]
    simpa using a2
  · rcases a4 with e | e
    · exact h1.2 g (e.symm.trans hg)
    · rw [e] at hg
      cases hg
      simp only [World.size_alloc]
      omega
  · have hs : VSps (W1.alloc (.cells x 26)) (fun b => n0 ≤ b ∧ ov.ownBlock ≠ some b ∧ b < (W1.alloc (.cells x 26)).heap.size) (m ++ [v]) (xs ++ [x]) :=
      VSps_snoc (h2.imp fun b hb hp => ⟨hp.1, hp.2, hb⟩) (hx'.imp fun b hb hp => ⟨by omega, fun e => by have := hlt b e; omega, hb⟩)
    refine (hs.keep (w' := W2) fun b hp hb => a3.block b hb hp.2.1).imp fun b _ hp => ⟨hp.1, ?_⟩
    rcases a4 with e | e
    · rw [e]; exact hp.2.1
    · rw [e]; intro e2; cases e2; have := hp.2.2; omega
  · exact a3.below hWn (fun b hb e => by have := h1.2 b e; omega) (by simp only [World.size_alloc]; omega)
/-- The one to spare behind the copies. -/
theorem CpI.last {n0 : Nat} {W : World} {ov : Value} {m : List V} {g : Nat} (h : CpI n0 W ov m) (h0 : n0 ≤ W.heap.size) (hc : W.heap[g]? = some (.cells sentX 26 (0, 0))) (hm : m.length ≤ 1000000) (ty : TypeId) :
    ∃ g2 c2 W2, (Builtin.append_ #[24, 24] ty #[ov, .slice (some ⟨g, 0, none⟩) 1 1]).run Tryz.prog W = .ok (.slice (some ⟨g2, 0, none⟩) (m.length + 1) c2) W2 ∧
      (∃ xs, OwnsP W2 (fun b => n0 ≤ b) 26 6 (.slice (some ⟨g2, 0, none⟩) (m.length + 1) c2) (m.length + 1) (xs.flatMap Array.toList ++ sentX.toList) ∧ VSps W2 (fun b => n0 ≤ b) m xs) ∧ Below n0 W W2 := by
  obtain ⟨xs, h1, h2⟩ := h
  obtain ⟨v', W2, a1, a2, a3, a4, a5⟩ := append_val h1.1 (x := sentX) rfl (by simp [sentX, Value.oneCell']) hc hm ty
  have hs : ∃ g2 c2, v' = .slice (some ⟨g2, 0, none⟩) (m.length + 1) c2 := by
    rcases a2.2 with ⟨_, e⟩ | ⟨g2, c2, _, e, _⟩
    · omega
    · exact ⟨g2, c2, e⟩
  obtain ⟨g2, c2, rfl⟩ := hs
  refine ⟨g2, c2, W2, a1, ⟨xs, ⟨a2, fun q hq => ?_⟩, ?_⟩, ?_⟩
  · rcases a4 with e | e
    · exact h1.2 q (e.symm.trans hq)
    · rw [e] at hq; cases hq; exact h0
  · exact (h2.keep (w' := W2) fun b hp hb => a3.block b hb hp.2).imp fun b _ hp => hp.1
  · exact a3.below (Below.refl _ _) (fun b hb e => by have := h1.2 b e; omega) h0
end Go.Proofs.YtnkaegdnjfpliaaGreatDoor

/-! Keys with one to spare: the steps of the law's copied, in whatever order. -/
namespace Go.Proofs.YtnkaegdnjfpliaaGreatDoor
set_option linter.unusedSimpArgs false
set_option linter.unusedVariables false
open Go.RowKit

theorem TwoV.low {w W W' : World} {x y : Array Value} (h : TwoV w W x y) (g : Below (w.heap.size + 2) W W') : TwoV w W' x y :=
  ⟨(g.block _ (by omega)).trans h.1, (g.block _ (by omega)).trans h.2.1, h.2.2.trans (g.mono (by omega))⟩
theorem empty_row {W : World} (n0 : Nat) (h0 : n0 ≤ W.heap.size) : OwnsP (W.alloc (.cells #[] 9)) (fun b => n0 ≤ b) 9 1 (.slice (some ⟨W.heap.size, 0, none⟩) 0 0) 0 [] :=
  ⟨ownsRow_of_heap (heap_alloc_new W _) (Nat.le_refl _) (by unfold maxLen; omega) rfl rfl rfl, fun g hg => by cases hg; exact h0⟩
/-- Keys behind nothing. -/
theorem keys_one {w W : World} {n0 g0 : Nat} {ks : List (List UInt8)} {p : Option Addr} {c : Nat} (h : OwnsP W (fun b => n0 ≤ b) 9 1 (.slice (some ⟨g0, 0, none⟩) 0 0) 0 []) (hm : RdS W p c ks) (hn : ks.length ≤ 1000000) (h0 : n0 ≤ W.heap.size) (ty : TypeId) :
    ∃ v' W', (Builtin.append_ #[23, 23] ty #[.slice (some ⟨g0, 0, none⟩) 0 0, .slice p ks.length c]).run Tryz.prog W = .ok v' W' ∧ OwnsP W' (fun b => n0 ≤ b) 9 1 v' ks.length (ks.map strV) ∧ Below n0 W W' ∧ ∀ b, b ≠ g0 → b < W.heap.size → W'.heap[b]? = W.heap[b]? := by
  have hg : n0 ≤ g0 := h.2 g0 rfl
  obtain ⟨v', W', a1, a2, a3, a4, a5⟩ := append_keys (w := w) (l := []) h hm (by simpa using hn) h0 ty
  rw [List.nil_append] at a2
  have hlow : ∀ b, b < n0 → ¬ (Value.slice (some ⟨g0, 0, none⟩) 0 0).ownBlock = some b := by
    intro b hb e
    have e2 : g0 = b := by simpa [Value.ownBlock] using e
    omega
  exact ⟨v', W', a1, a2, a3.toBelow h0 hlow, fun b hb hl => a3.block b hl (fun e => hb (by simpa [Value.ownBlock] using e.symm))⟩
/-- The one to spare behind keys. -/
theorem keys_two {W : World} {n0 h : Nat} {v : Value} {ks : List (List UInt8)} (hv : OwnsP W (fun b => n0 ≤ b) 9 1 v ks.length (ks.map strV)) (hh : W.heap[h]? = some (.cells #[.string (strB spareB)] 9 (0, 0))) (hn : ks.length ≤ 1000000) (h0 : n0 ≤ W.heap.size) (ty : TypeId) :
    ∃ g c W', (Builtin.append_ #[23, 23] ty #[v, .slice (some ⟨h, 0, none⟩) 1 1]).run Tryz.prog W = .ok (.slice (some ⟨g, 0, none⟩) (ks.length + 1) c) W' ∧
      OwnsP W' (fun b => n0 ≤ b) 9 1 (.slice (some ⟨g, 0, none⟩) (ks.length + 1) c) (ks.length + 1) (ks.map strV ++ [strV spareB]) ∧ Below n0 W W' ∧ ks.length + 1 ≤ c := by
  obtain ⟨v', W', a1, a2, a3, a4, a5⟩ := append_str hv.1 hh hn ty
  have hs : ∃ g c, v' = .slice (some ⟨g, 0, none⟩) (ks.length + 1) c ∧ ks.length + 1 ≤ c := by
    rcases a2.2 with ⟨_, e⟩ | ⟨g, c, _, e, _, _, h, _⟩
    · omega
    · exact ⟨g, c, e, h⟩
  obtain ⟨g, c, rfl, hc⟩ := hs
  refine ⟨g, c, W', a1, ⟨a2, fun q hq => ?_⟩, a3.toBelow h0 (fun b hb e => by have := hv.2 b e; omega), hc⟩
  rcases a4 with e | e
  · exact hv.2 q (e.symm.trans hq)
  · rw [e] at hq; cases hq; exact h0
end Go.Proofs.YtnkaegdnjfpliaaGreatDoor

/-! The document's ints, rank and Texts. -/
namespace Go.Proofs.YtnkaegdnjfpliaaGreatDoor
set_option linter.unusedSimpArgs false
set_option linter.unusedVariables false
open Go.RowKit

set_option maxRecDepth 100000 in
theorem ints_any (a b : Int) (w : World) : Calls Tryz.prog 59 #[.int .i64 a, .int .i64 b] w fun e w' => e = .returned (.int .i64 (cmpI a b)) ∧ w = w' := by
  rcases cmpI_cases a b with ⟨h, e⟩ | ⟨h, e⟩ | ⟨h, e⟩
  all_goals
    rw [e]
    have h1 : decide (a < b) = decide (a < b) := rfl
    go_enter Tryz.func59, Tryz.ntmps59
  · have d1 : decide (a < b) = true := by simpa using h
    go_wp2
    go_ret
    exact ⟨rfl, rfl⟩
  · subst h
    go_wp2
    go_ret
    exact ⟨rfl, rfl⟩
  · have d1 : decide (a < b) = false := by simp; omega
    have d2 : decide (b < a) = true := by simpa using h
    go_wp2
    go_ret
    exact ⟨rfl, rfl⟩
/-! ### Texts -/
theorem cmpB_skip : ∀ (j : Nat) (a b : List UInt8), a.take j = b.take j → j ≤ a.length → j ≤ b.length → cmpB a b = cmpB (a.drop j) (b.drop j) := by
  intro j
  induction j with
  | zero => intro a b _ _ _; simp
  | succ j ih =>
    intro a b h ha hb
    cases a with
    | nil => simp at ha
    | cons x r =>
      cases b with
      | nil => simp at hb
      | cons y s =>
        simp only [List.take_succ_cons, List.cons.injEq] at h
        obtain ⟨rfl, h⟩ := h
        simp only [List.drop_succ_cons]
        rw [← ih r s h (by simpa using ha) (by simpa using hb)]
        unfold cmpB
        rw [cmpL]
        rw [if_neg (by rw [cmpI_self]; simp)]
theorem cmpB_at {a b : List UInt8} {j : Nat} (ha : j < a.length) (hb : j < b.length) (h : a.take j = b.take j) (hne : a[j] ≠ b[j]) : cmpB a b = cmpI (a[j].toNat : Int) (b[j].toNat : Int) := by
  rw [cmpB_skip j a b h (by omega) (by omega), List.drop_eq_getElem_cons ha, List.drop_eq_getElem_cons hb]
  unfold cmpB
  rw [cmpL, if_pos]
  intro e
  have := cmpI_zero e
  exact hne (UInt8.toNat_inj.1 (by omega))
theorem cmpB_len {a b : List UInt8} {j : Nat} (ha : j ≤ a.length) (hb : j ≤ b.length) (h : a.take j = b.take j) (he : j = a.length ∨ j = b.length) : cmpB a b = cmpI (a.length : Int) (b.length : Int) := by
  rw [cmpB_skip j a b h ha hb]
  rcases he with rfl | rfl
  · rw [List.drop_length]
    cases hd : b.drop a.length with
    | nil =>
      have : b.length = a.length := by have := congrArg List.length hd; simp at this; omega
      rw [this, cmpI_self]; rfl
    | cons y s =>
      have : a.length < b.length := by have := congrArg List.length hd; simp at this; omega
      unfold cmpI
      rw [if_pos (by omega)]; rfl
  · rw [List.drop_length]
    cases hd : a.drop b.length with
    | nil =>
      have : a.length = b.length := by have := congrArg List.length hd; simp at this; omega
      rw [this, cmpI_self]; rfl
    | cons y s =>
      have : b.length < a.length := by have := congrArg List.length hd; simp at this; omega
      unfold cmpI
      rw [if_neg (by omega), if_pos (by omega)]; rfl
set_option maxRecDepth 100000 in
set_option maxHeartbeats 4000000 in
theorem rankR_any (k : Int) (h0 : 0 ≤ k) (h7 : k ≤ 7) (w : World) : Calls Tryz.prog 60 #[.int .i64 k] w fun e w' => e = .returned (.int .i64 (rankV k)) ∧ Below w.heap.size w w' := by
  have HB := Lib.hid (below_new (w := w) (.cells #[.int .i64 5, .int .i64 6, .int .i64 7, .int .i64 4, .int .i64 3, .int .i64 1, .int .i64 2, .int .i64 0] 22))
  have hb := heap_alloc_new w (.cells #[.int .i64 5, .int .i64 6, .int .i64 7, .int .i64 4, .int .i64 3, .int .i64 1, .int .i64 2, .int .i64 0] 22)
  have c0 := cellOf (o := 0) hb rfl; have c1 := cellOf (o := 1) hb rfl; have c2 := cellOf (o := 2) hb rfl; have c3 := cellOf (o := 3) hb rfl
  have c4 := cellOf (o := 4) hb rfl; have c5 := cellOf (o := 5) hb rfl; have c6 := cellOf (o := 6) hb rfl; have c7 := cellOf (o := 7) hb rfl
  have HC := Lib.hid (And.intro c0 (And.intro c1 (And.intro c2 (And.intro c3 (And.intro c4 (And.intro c5 (And.intro c6 c7)))))))
  clear c0 c1 c2 c3 c4 c5 c6 c7 hb
  have hk : k = 5 ∨ k = 6 ∨ k = 7 ∨ k = 4 ∨ k = 3 ∨ k = 1 ∨ k = 2 ∨ k = 0 := by omega
  clear h0 h7
  rcases hk with rfl | rfl | rfl | rfl | rfl | rfl | rfl | rfl
  · have e : rankV 5 = 0 := rfl
    rw [e]
    go_enter Tryz.func60, Tryz.ntmps60
    go_wp2
    go_loopw [4] (fun i W => ∃ j : Nat, j ≤ 0 ∧ i = .int .i64 (j : Int) ∧ Hid (W = w.alloc (.cells #[.int .i64 5, .int .i64 6, .int .i64 7, .int .i64 4, .int .i64 3, .int .i64 1, .int .i64 2, .int .i64 0] 22))) (fun i _ => 8 - (intOf i).toNat)
    case atStart => exact ⟨0, Nat.zero_le _, rfl, Lib.hid rfl⟩
    case round =>
      obtain ⟨j, hj, rfl, HW⟩ := hrel
      have hW := HW.out
      subst hW
      clear HW
      obtain ⟨c0, c1, c2, c3, c4, c5, c6, c7⟩ := HC.out
      have hjj : j = 0 := by omega
      rcases hjj with rfl
      · clear hj
        go_wp2
        go_ret
        exact ⟨rfl, HB.out⟩
  · have e : rankV 6 = 1 := rfl
    rw [e]
    go_enter Tryz.func60, Tryz.ntmps60
    go_wp2
    go_loopw [4] (fun i W => ∃ j : Nat, j ≤ 1 ∧ i = .int .i64 (j : Int) ∧ Hid (W = w.alloc (.cells #[.int .i64 5, .int .i64 6, .int .i64 7, .int .i64 4, .int .i64 3, .int .i64 1, .int .i64 2, .int .i64 0] 22))) (fun i _ => 8 - (intOf i).toNat)
    case atStart => exact ⟨0, Nat.zero_le _, rfl, Lib.hid rfl⟩
    case round =>
      obtain ⟨j, hj, rfl, HW⟩ := hrel
      have hW := HW.out
      subst hW
      clear HW
      obtain ⟨c0, c1, c2, c3, c4, c5, c6, c7⟩ := HC.out
      have hjj : j = 0 ∨ j = 1 := by omega
      rcases hjj with rfl | rfl
      · clear hj
        go_wp2
        go_roundw
        case rel => exact ⟨1, by omega, by go_num, Lib.hid trivial⟩
        case measure => simp [intOf]
      · clear hj
        go_wp2
        go_ret
        exact ⟨rfl, HB.out⟩
  · have e : rankV 7 = 2 := rfl
    rw [e]
    go_enter Tryz.func60, Tryz.ntmps60
    go_wp2
    go_loopw [4] (fun i W => ∃ j : Nat, j ≤ 2 ∧ i = .int .i64 (j : Int) ∧ Hid (W = w.alloc (.cells #[.int .i64 5, .int .i64 6, .int .i64 7, .int .i64 4, .int .i64 3, .int .i64 1, .int .i64 2, .int .i64 0] 22))) (fun i _ => 8 - (intOf i).toNat)
    case atStart => exact ⟨0, Nat.zero_le _, rfl, Lib.hid rfl⟩
    case round =>
      obtain ⟨j, hj, rfl, HW⟩ := hrel
      have hW := HW.out
      subst hW
      clear HW
      obtain ⟨c0, c1, c2, c3, c4, c5, c6, c7⟩ := HC.out
      have hjj : j = 0 ∨ j = 1 ∨ j = 2 := by omega
      rcases hjj with rfl | rfl | rfl
      · clear hj
        go_wp2
        go_roundw
        case rel => exact ⟨1, by omega, by go_num, Lib.hid trivial⟩
        case measure => simp [intOf]
      · clear hj
        go_wp2
        go_roundw
        case rel => exact ⟨2, by omega, by go_num, Lib.hid trivial⟩
        case measure => simp [intOf]
      · clear hj
        go_wp2
        go_ret
        exact ⟨rfl, HB.out⟩
  · have e : rankV 4 = 3 := rfl
    rw [e]
    go_enter Tryz.func60, Tryz.ntmps60
    go_wp2
    go_loopw [4] (fun i W => ∃ j : Nat, j ≤ 3 ∧ i = .int .i64 (j : Int) ∧ Hid (W = w.alloc (.cells #[.int .i64 5, .int .i64 6, .int .i64 7, .int .i64 4, .int .i64 3, .int .i64 1, .int .i64 2, .int .i64 0] 22))) (fun i _ => 8 - (intOf i).toNat)
    case atStart => exact ⟨0, Nat.zero_le _, rfl, Lib.hid rfl⟩
    case round =>
      obtain ⟨j, hj, rfl, HW⟩ := hrel
      have hW := HW.out
      subst hW
      clear HW
      obtain ⟨c0, c1, c2, c3, c4, c5, c6, c7⟩ := HC.out
      have hjj : j = 0 ∨ j = 1 ∨ j = 2 ∨ j = 3 := by omega
      rcases hjj with rfl | rfl | rfl | rfl
      · clear hj
        go_wp2
        go_roundw
        case rel => exact ⟨1, by omega, by go_num, Lib.hid trivial⟩
        case measure => simp [intOf]
      · clear hj
        go_wp2
        go_roundw
        case rel => exact ⟨2, by omega, by go_num, Lib.hid trivial⟩
        case measure => simp [intOf]
      · clear hj
        go_wp2
        go_roundw
        case rel => exact ⟨3, by omega, by go_num, Lib.hid trivial⟩
        case measure => simp [intOf]
      · clear hj
        go_wp2
        go_ret
        exact ⟨rfl, HB.out⟩
  · have e : rankV 3 = 4 := rfl
    rw [e]
    go_enter Tryz.func60, Tryz.ntmps60
    go_wp2
    go_loopw [4] (fun i W => ∃ j : Nat, j ≤ 4 ∧ i = .int .i64 (j : Int) ∧ Hid (W = w.alloc (.cells #[.int .i64 5, .int .i64 6, .int .i64 7, .int .i64 4, .int .i64 3, .int .i64 1, .int .i64 2, .int .i64 0] 22))) (fun i _ => 8 - (intOf i).toNat)
    case atStart => exact ⟨0, Nat.zero_le _, rfl, Lib.hid rfl⟩
    case round =>
      obtain ⟨j, hj, rfl, HW⟩ := hrel
      have hW := HW.out
      subst hW
      clear HW
      obtain ⟨c0, c1, c2, c3, c4, c5, c6, c7⟩ := HC.out
      have hjj : j = 0 ∨ j = 1 ∨ j = 2 ∨ j = 3 ∨ j = 4 := by omega
      rcases hjj with rfl | rfl | rfl | rfl | rfl
      · clear hj
        go_wp2
        go_roundw
        case rel => exact ⟨1, by omega, by go_num, Lib.hid trivial⟩
        case measure => simp [intOf]
      · clear hj
        go_wp2
        go_roundw
        case rel => exact ⟨2, by omega, by go_num, Lib.hid trivial⟩
        case measure => simp [intOf]
      · clear hj
        go_wp2
        go_roundw
        case rel => exact ⟨3, by omega, by go_num, Lib.hid trivial⟩
        case measure => simp [intOf]
      · clear hj
        go_wp2
        go_roundw
        case rel => exact ⟨4, by omega, by go_num, Lib.hid trivial⟩
        case measure => simp [intOf]
      · clear hj
        go_wp2
        go_ret
        exact ⟨rfl, HB.out⟩
  · have e : rankV 1 = 5 := rfl
    rw [e]
    go_enter Tryz.func60, Tryz.ntmps60
    go_wp2
    go_loopw [4] (fun i W => ∃ j : Nat, j ≤ 5 ∧ i = .int .i64 (j : Int) ∧ Hid (W = w.alloc (.cells #[.int .i64 5, .int .i64 6, .int .i64 7, .int .i64 4, .int .i64 3, .int .i64 1, .int .i64 2, .int .i64 0] 22))) (fun i _ => 8 - (intOf i).toNat)
    case atStart => exact ⟨0, Nat.zero_le _, rfl, Lib.hid rfl⟩
    case round =>
      obtain ⟨j, hj, rfl, HW⟩ := hrel
      have hW := HW.out
      subst hW
      clear HW
      obtain ⟨c0, c1, c2, c3, c4, c5, c6, c7⟩ := HC.out
      have hjj : j = 0 ∨ j = 1 ∨ j = 2 ∨ j = 3 ∨ j = 4 ∨ j = 5 := by omega
      rcases hjj with rfl | rfl | rfl | rfl | rfl | rfl
      · clear hj
        go_wp2
        go_roundw
        case rel => exact ⟨1, by omega, by go_num, Lib.hid trivial⟩
        case measure => simp [intOf]
      · clear hj
        go_wp2
        go_roundw
        case rel => exact ⟨2, by omega, by go_num, Lib.hid trivial⟩
        case measure => simp [intOf]
      · clear hj
        go_wp2
        go_roundw
        case rel => exact ⟨3, by omega, by go_num, Lib.hid trivial⟩
        case measure => simp [intOf]
      · clear hj
        go_wp2
        go_roundw
        case rel => exact ⟨4, by omega, by go_num, Lib.hid trivial⟩
        case measure => simp [intOf]
      · clear hj
        go_wp2
        go_roundw
        case rel => exact ⟨5, by omega, by go_num, Lib.hid trivial⟩
        case measure => simp [intOf]
      · clear hj
        go_wp2
        go_ret
        exact ⟨rfl, HB.out⟩
  · have e : rankV 2 = 6 := rfl
    rw [e]
    go_enter Tryz.func60, Tryz.ntmps60
    go_wp2
    go_loopw [4] (fun i W => ∃ j : Nat, j ≤ 6 ∧ i = .int .i64 (j : Int) ∧ Hid (W = w.alloc (.cells #[.int .i64 5, .int .i64 6, .int .i64 7, .int .i64 4, .int .i64 3, .int .i64 1, .int .i64 2, .int .i64 0] 22))) (fun i _ => 8 - (intOf i).toNat)
    case atStart => exact ⟨0, Nat.zero_le _, rfl, Lib.hid rfl⟩
    case round =>
      obtain ⟨j, hj, rfl, HW⟩ := hrel
      have hW := HW.out
      subst hW
      clear HW
      obtain ⟨c0, c1, c2, c3, c4, c5, c6, c7⟩ := HC.out
      have hjj : j = 0 ∨ j = 1 ∨ j = 2 ∨ j = 3 ∨ j = 4 ∨ j = 5 ∨ j = 6 := by omega
      rcases hjj with rfl | rfl | rfl | rfl | rfl | rfl | rfl
      · clear hj
        go_wp2
        go_roundw
        case rel => exact ⟨1, by omega, by go_num, Lib.hid trivial⟩
        case measure => simp [intOf]
      · clear hj
        go_wp2
        go_roundw
        case rel => exact ⟨2, by omega, by go_num, Lib.hid trivial⟩
        case measure => simp [intOf]
      · clear hj
        go_wp2
        go_roundw
        case rel => exact ⟨3, by omega, by go_num, Lib.hid trivial⟩
        case measure => simp [intOf]
      · clear hj
        go_wp2
        go_roundw
        case rel => exact ⟨4, by omega, by go_num, Lib.hid trivial⟩
        case measure => simp [intOf]
      · clear hj
        go_wp2
        go_roundw
        case rel => exact ⟨5, by omega, by go_num, Lib.hid trivial⟩
        case measure => simp [intOf]
      · clear hj
        go_wp2
        go_roundw
        case rel => exact ⟨6, by omega, by go_num, Lib.hid trivial⟩
        case measure => simp [intOf]
      · clear hj
        go_wp2
        go_ret
        exact ⟨rfl, HB.out⟩
  · have e : rankV 0 = 7 := rfl
    rw [e]
    go_enter Tryz.func60, Tryz.ntmps60
    go_wp2
    go_loopw [4] (fun i W => ∃ j : Nat, j ≤ 7 ∧ i = .int .i64 (j : Int) ∧ Hid (W = w.alloc (.cells #[.int .i64 5, .int .i64 6, .int .i64 7, .int .i64 4, .int .i64 3, .int .i64 1, .int .i64 2, .int .i64 0] 22))) (fun i _ => 8 - (intOf i).toNat)
    case atStart => exact ⟨0, Nat.zero_le _, rfl, Lib.hid rfl⟩
    case round =>
      obtain ⟨j, hj, rfl, HW⟩ := hrel
      have hW := HW.out
      subst hW
      clear HW
      obtain ⟨c0, c1, c2, c3, c4, c5, c6, c7⟩ := HC.out
      have hjj : j = 0 ∨ j = 1 ∨ j = 2 ∨ j = 3 ∨ j = 4 ∨ j = 5 ∨ j = 6 ∨ j = 7 := by omega
      rcases hjj with rfl | rfl | rfl | rfl | rfl | rfl | rfl | rfl
      · clear hj
        go_wp2
        go_roundw
        case rel => exact ⟨1, by omega, by go_num, Lib.hid trivial⟩
        case measure => simp [intOf]
      · clear hj
        go_wp2
        go_roundw
        case rel => exact ⟨2, by omega, by go_num, Lib.hid trivial⟩
        case measure => simp [intOf]
      · clear hj
        go_wp2
        go_roundw
        case rel => exact ⟨3, by omega, by go_num, Lib.hid trivial⟩
        case measure => simp [intOf]
      · clear hj
        go_wp2
        go_roundw
        case rel => exact ⟨4, by omega, by go_num, Lib.hid trivial⟩
        case measure => simp [intOf]
      · clear hj
        go_wp2
        go_roundw
        case rel => exact ⟨5, by omega, by go_num, Lib.hid trivial⟩
        case measure => simp [intOf]
      · clear hj
        go_wp2
        go_roundw
        case rel => exact ⟨6, by omega, by go_num, Lib.hid trivial⟩
        case measure => simp [intOf]
      · clear hj
        go_wp2
        go_roundw
        case rel => exact ⟨7, by omega, by go_num, Lib.hid trivial⟩
        case measure => simp [intOf]
      · clear hj
        go_wp2
        go_ret
        exact ⟨rfl, HB.out⟩
end Go.Proofs.YtnkaegdnjfpliaaGreatDoor

/-! The document's Texts. Printed by gen_texts.py. -/
namespace Go.Proofs.YtnkaegdnjfpliaaGreatDoor
set_option linter.unusedSimpArgs false
set_option linter.unusedVariables false
open Go.RowKit

theorem exec_index {P : Program} {a : Act} {w w' : World} {o : Oper} {t : TypeId} {x y : Operand} {vx vy v : Value} (ho : o.op = .index t x y) (hx : a.eval x = vx) (hy : a.eval y = vy) (hr : (Instr.index t vx vy).run P w = .ok v w') :
    (execOp a.eval o).run P w = .ok (.value v) w' := by
  unfold execOp; rw [ho]; simp only [hx, hy, Sem.run_bind, hr, Result.andThen_ok, Sem.run_pure]
theorem index_str (l : List UInt8) (j : Nat) (h : j < l.length) (W : World) : (Instr.index 9 (.string (strB l)) (.int .i64 (j : Int))).run Tryz.prog W = .ok (.int .u8 (l[j].toNat : Int)) W := by
  have h1 : 0 ≤ (j : Int) := by omega
  simp [go_sem, h1]
  rw [dif_pos (show j < (strB l).size from h)]
  rfl
theorem conv_u8 (n : Nat) (h : n < 256) (W : World) : (convert 5 2 (.int .u8 (n : Int))).run Tryz.prog W = .ok (.int .i64 (n : Int)) W := by
  have e : IntKind.i64.wrap (n : Int) = n := by simp [IntKind.wrap, IntKind.signed, IntKind.bits]; omega
  simp [go_sem, e]
set_option maxRecDepth 100000 in
set_option maxHeartbeats 8000000 in
theorem texts_any (a b : List UInt8) (ha : a.length ≤ 140737488355328) (hb : b.length ≤ 140737488355328) (w : World) : Calls Tryz.prog 61 #[.string (strB a), .string (strB b)] w fun e w' => e = .returned (.int .i64 (cmpB a b)) ∧ Below w.heap.size w w' := by
  have sa : (strB a).size = a.length := rfl
  have sb : (strB b).size = b.length := rfl
  have z1 : (a.length : Int) ≤ 140737488355328 := by omega
  have z2 : (b.length : Int) ≤ 140737488355328 := by omega
  clear ha hb
  go_enter Tryz.func61, Tryz.ntmps61
  go_wp2
  go_loopw [5] (fun i W => ∃ j : Nat, j ≤ a.length ∧ i = .int .i64 (j : Int) ∧ j ≤ b.length ∧ Hid (a.take j = b.take j) ∧ Hid (Below w.heap.size w W)) (fun i _ => a.length - (intOf i).toNat)
  case atStart => exact ⟨0, Nat.zero_le _, rfl, Nat.zero_le _, Lib.hid rfl, Lib.hid (Below.refl _ _)⟩
  case round =>
    obtain ⟨j, hj, rfl, hj2, HQ, HB⟩ := hrel
    by_cases h1 : j < a.length
    · by_cases h2 : j < b.length
      · have hl1 : j + 1 ≤ a.length := h1
        have hl2 : j + 1 ≤ b.length := h2
        by_cases hne : a[j] = b[j]
        · have htk : a.take (j + 1) = b.take (j + 1) := by rw [List.take_succ_eq_append_getElem h1, List.take_succ_eq_append_getElem h2, HQ.out, hne]
          have hq : ∀ W : World, (binOp .neq 5 (.int .u8 (a[j].toNat : Int)) (.int .u8 (b[j].toNat : Int))).run Tryz.prog W = .ok (.bool false) W := fun W => by simp [go_sem, hne]
          have HN := Lib.hid htk
          go_wp2
          refine plain_region_draws (fun _ => True) (by kernel_rfl) trivial (fun _ => ?_)
          refine take 0 18 (v := .string (strB a)) rfl rfl (by kernel_rfl) (by kernel_rfl) (by kernel_rfl) rfl (fun W hW => exec_move rfl rfl) trivial ?_
          simp only [Act.put, List.setIfInBounds_toArray, List.set_cons_zero, List.set_cons_succ]
          refine take 1 19 (v := .int .i64 (j : Int)) rfl rfl (by kernel_rfl) (by kernel_rfl) (by kernel_rfl) rfl (fun W hW => exec_move rfl rfl) trivial ?_
          simp only [Act.put, List.setIfInBounds_toArray, List.set_cons_zero, List.set_cons_succ]
          refine take 2 20 (v := .int .u8 (a[j].toNat : Int)) rfl rfl (by kernel_rfl) (by kernel_rfl) (by kernel_rfl) rfl (fun W hW => exec_index rfl rfl rfl (index_str _ _ h1 W)) trivial ?_
          simp only [Act.put, List.setIfInBounds_toArray, List.set_cons_zero, List.set_cons_succ]
          refine take 3 21 (v := .string (strB b)) rfl rfl (by kernel_rfl) (by kernel_rfl) (by kernel_rfl) rfl (fun W hW => exec_move rfl rfl) trivial ?_
          simp only [Act.put, List.setIfInBounds_toArray, List.set_cons_zero, List.set_cons_succ]
          refine take 4 22 (v := .int .i64 (j : Int)) rfl rfl (by kernel_rfl) (by kernel_rfl) (by kernel_rfl) rfl (fun W hW => exec_move rfl rfl) trivial ?_
          simp only [Act.put, List.setIfInBounds_toArray, List.set_cons_zero, List.set_cons_succ]
          refine take 5 23 (v := .int .u8 (b[j].toNat : Int)) rfl rfl (by kernel_rfl) (by kernel_rfl) (by kernel_rfl) rfl (fun W hW => exec_index rfl rfl rfl (index_str _ _ h2 W)) trivial ?_
          simp only [Act.put, List.setIfInBounds_toArray, List.set_cons_zero, List.set_cons_succ]
          refine take 6 24 (v := .bool false) rfl rfl (by kernel_rfl) (by kernel_rfl) (by kernel_rfl) rfl (fun W hW => exec_bin rfl rfl rfl rfl (hq W)) trivial ?_
          simp only [Act.put, List.setIfInBounds_toArray, List.set_cons_zero, List.set_cons_succ]
          refine done (by kernel_rfl) ?_ _
          clear hq hne htk HQ
          go_wp2
          go_roundw
          case rel => exact ⟨j + 1, hl1, by go_num, hl2, HN, Lib.hid HB.out.drew⟩
          case measure => simp [intOf]; omega
        · have hcm := cmpB_at h1 h2 HQ.out hne
          have hq : ∀ W : World, (binOp .neq 5 (.int .u8 (a[j].toNat : Int)) (.int .u8 (b[j].toNat : Int))).run Tryz.prog W = .ok (.bool true) W := fun W => by
            have : ¬ (a[j].toNat : Int) = (b[j].toNat : Int) := fun e => hne (UInt8.toNat_inj.1 (by omega))
            simp [go_sem, this]
          have HN := Lib.hid hcm
          have u1 := a[j].toNat_lt
          have u2 := b[j].toNat_lt
          go_wp2
          refine plain_region_draws (fun _ => True) (by kernel_rfl) trivial (fun _ => ?_)
          refine take 0 18 (v := .string (strB a)) rfl rfl (by kernel_rfl) (by kernel_rfl) (by kernel_rfl) rfl (fun W hW => exec_move rfl rfl) trivial ?_
          simp only [Act.put, List.setIfInBounds_toArray, List.set_cons_zero, List.set_cons_succ]
          refine take 1 19 (v := .int .i64 (j : Int)) rfl rfl (by kernel_rfl) (by kernel_rfl) (by kernel_rfl) rfl (fun W hW => exec_move rfl rfl) trivial ?_
          simp only [Act.put, List.setIfInBounds_toArray, List.set_cons_zero, List.set_cons_succ]
          refine take 2 20 (v := .int .u8 (a[j].toNat : Int)) rfl rfl (by kernel_rfl) (by kernel_rfl) (by kernel_rfl) rfl (fun W hW => exec_index rfl rfl rfl (index_str _ _ h1 W)) trivial ?_
          simp only [Act.put, List.setIfInBounds_toArray, List.set_cons_zero, List.set_cons_succ]
          refine take 3 21 (v := .string (strB b)) rfl rfl (by kernel_rfl) (by kernel_rfl) (by kernel_rfl) rfl (fun W hW => exec_move rfl rfl) trivial ?_
          simp only [Act.put, List.setIfInBounds_toArray, List.set_cons_zero, List.set_cons_succ]
          refine take 4 22 (v := .int .i64 (j : Int)) rfl rfl (by kernel_rfl) (by kernel_rfl) (by kernel_rfl) rfl (fun W hW => exec_move rfl rfl) trivial ?_
          simp only [Act.put, List.setIfInBounds_toArray, List.set_cons_zero, List.set_cons_succ]
          refine take 5 23 (v := .int .u8 (b[j].toNat : Int)) rfl rfl (by kernel_rfl) (by kernel_rfl) (by kernel_rfl) rfl (fun W hW => exec_index rfl rfl rfl (index_str _ _ h2 W)) trivial ?_
          simp only [Act.put, List.setIfInBounds_toArray, List.set_cons_zero, List.set_cons_succ]
          refine take 6 24 (v := .bool true) rfl rfl (by kernel_rfl) (by kernel_rfl) (by kernel_rfl) rfl (fun W hW => exec_bin rfl rfl rfl rfl (hq W)) trivial ?_
          simp only [Act.put, List.setIfInBounds_toArray, List.set_cons_zero, List.set_cons_succ]
          refine done (by kernel_rfl) ?_ _
          go_wp2
          refine plain_region_draws (fun _ => True) (by kernel_rfl) trivial (fun _ => ?_)
          refine take 0 25 (v := .string (strB a)) rfl rfl (by kernel_rfl) (by kernel_rfl) (by kernel_rfl) rfl (fun W hW => exec_move rfl rfl) trivial ?_
          simp only [Act.put, List.setIfInBounds_toArray, List.set_cons_zero, List.set_cons_succ]
          refine take 1 26 (v := .int .i64 (j : Int)) rfl rfl (by kernel_rfl) (by kernel_rfl) (by kernel_rfl) rfl (fun W hW => exec_move rfl rfl) trivial ?_
          simp only [Act.put, List.setIfInBounds_toArray, List.set_cons_zero, List.set_cons_succ]
          refine take 2 27 (v := .int .u8 (a[j].toNat : Int)) rfl rfl (by kernel_rfl) (by kernel_rfl) (by kernel_rfl) rfl (fun W hW => exec_index rfl rfl rfl (index_str _ _ h1 W)) trivial ?_
          simp only [Act.put, List.setIfInBounds_toArray, List.set_cons_zero, List.set_cons_succ]
          refine take 3 28 (v := .int .i64 (a[j].toNat : Int)) rfl rfl (by kernel_rfl) (by kernel_rfl) (by kernel_rfl) rfl (fun W hW => exec_convert rfl rfl (conv_u8 _ u1 W)) trivial ?_
          simp only [Act.put, List.setIfInBounds_toArray, List.set_cons_zero, List.set_cons_succ]
          refine take 4 29 (v := .string (strB b)) rfl rfl (by kernel_rfl) (by kernel_rfl) (by kernel_rfl) rfl (fun W hW => exec_move rfl rfl) trivial ?_
          simp only [Act.put, List.setIfInBounds_toArray, List.set_cons_zero, List.set_cons_succ]
          refine take 5 30 (v := .int .i64 (j : Int)) rfl rfl (by kernel_rfl) (by kernel_rfl) (by kernel_rfl) rfl (fun W hW => exec_move rfl rfl) trivial ?_
          simp only [Act.put, List.setIfInBounds_toArray, List.set_cons_zero, List.set_cons_succ]
          refine take 6 31 (v := .int .u8 (b[j].toNat : Int)) rfl rfl (by kernel_rfl) (by kernel_rfl) (by kernel_rfl) rfl (fun W hW => exec_index rfl rfl rfl (index_str _ _ h2 W)) trivial ?_
          simp only [Act.put, List.setIfInBounds_toArray, List.set_cons_zero, List.set_cons_succ]
          refine take 7 32 (v := .int .i64 (b[j].toNat : Int)) rfl rfl (by kernel_rfl) (by kernel_rfl) (by kernel_rfl) rfl (fun W hW => exec_convert rfl rfl (conv_u8 _ u2 W)) trivial ?_
          simp only [Act.put, List.setIfInBounds_toArray, List.set_cons_zero, List.set_cons_succ]
          refine onlyCall 8 33 rfl rfl (by kernel_rfl) rfl (exec_call [.int .i64 (a[j].toNat : Int), .int .i64 (b[j].toNat : Int)] rfl rfl Tryz.func59 (by kernel_rfl) (by kernel_rfl)) ?_
          refine (ints_any _ _ _).mono ?_
          rintro e w' ⟨rfl, rfl⟩
          refine ⟨_, rfl, .inr trivial, ?_⟩
          simp only [Act.put, List.setIfInBounds_toArray, List.set_cons_zero, List.set_cons_succ]
          refine take 9 4 (v := .int .i64 (cmpI (a[j].toNat : Int) (b[j].toNat : Int))) rfl rfl (by kernel_rfl) (by kernel_rfl) (by kernel_rfl) rfl (fun W hW => exec_assign rfl rfl) trivial ?_
          simp only [Act.put, List.setIfInBounds_toArray, List.set_cons_zero, List.set_cons_succ]
          refine done (by kernel_rfl) ?_ _
          go_wp2
          go_ret
          exact ⟨ret_int HN.out.symm, HB.out.drew.drew⟩
      · have hj3 : j = b.length := by omega
        have HN := Lib.hid (cmpB_len hj hj2 HQ.out (.inr hj3))
        go_wp2_with (go_at_call 59; refine (ints_any _ _ _).mono ?_; rintro e w' ⟨rfl, rfl⟩)
        go_ret
        exact ⟨ret_int HN.out.symm, HB.out⟩
    · have hj3 : j = a.length := by omega
      have HN := Lib.hid (cmpB_len hj hj2 HQ.out (.inl hj3))
      go_wp2_with (go_at_call 59; refine (ints_any _ _ _).mono ?_; rintro e w' ⟨rfl, rfl⟩)
      go_ret
      exact ⟨ret_int HN.out.symm, HB.out⟩
end Go.Proofs.YtnkaegdnjfpliaaGreatDoor

/-! The document's Rows and Compare. Printed by gen_cmpd.py. -/
namespace Go.Proofs.YtnkaegdnjfpliaaGreatDoor
set_option linter.unusedSimpArgs false
set_option linter.unusedVariables false
open Go.RowKit

/-- A world in which two values lie at two addresses. -/
structure PairU (w : World) (s1 s2 : V) (g1 o1 g2 o2 : Nat) (c0 c1 c2 c3 c4 c5 d0 d1 d2 d3 d4 d5 : Value) (W : World) : Prop where
  b : Below w.heap.size w W
  h0 : W.cell? ⟨g1, o1, none⟩ = some c0
  h1 : W.cell? ⟨g1, o1 + 1, none⟩ = some c1
  h2 : W.cell? ⟨g1, o1 + 2, none⟩ = some c2
  h3 : W.cell? ⟨g1, o1 + 3, none⟩ = some c3
  h4 : W.cell? ⟨g1, o1 + 4, none⟩ = some c4
  h5 : W.cell? ⟨g1, o1 + 5, none⟩ = some c5
  q0 : W.cell? ⟨g2, o2, none⟩ = some d0
  q1 : W.cell? ⟨g2, o2 + 1, none⟩ = some d1
  q2 : W.cell? ⟨g2, o2 + 2, none⟩ = some d2
  q3 : W.cell? ⟨g2, o2 + 3, none⟩ = some d3
  q4 : W.cell? ⟨g2, o2 + 4, none⟩ = some d4
  q5 : W.cell? ⟨g2, o2 + 5, none⟩ = some d5
  r1 : VRd W s1 #[c0, c1, c2, c3, c4, c5]
  r2 : VRd W s2 #[d0, d1, d2, d3, d4, d5]
theorem PairU.keep {w W W' : World} {s1 s2 : V} {g1 o1 g2 o2 : Nat} {c0 c1 c2 c3 c4 c5 d0 d1 d2 d3 d4 d5 : Value} (h : PairU w s1 s2 g1 o1 g2 o2 c0 c1 c2 c3 c4 c5 d0 d1 d2 d3 d4 d5 W) (b : Below W.heap.size W W') : PairU w s1 s2 g1 o1 g2 o2 c0 c1 c2 c3 c4 c5 d0 d1 d2 d3 d4 d5 W' :=
  ⟨below_trans h.b b, belowCell b (ltOf h.h0) h.h0, belowCell b (ltOf h.h1) h.h1, belowCell b (ltOf h.h2) h.h2, belowCell b (ltOf h.h3) h.h3, belowCell b (ltOf h.h4) h.h4, belowCell b (ltOf h.h5) h.h5,
   belowCell b (ltOf h.q0) h.q0, belowCell b (ltOf h.q1) h.q1, belowCell b (ltOf h.q2) h.q2, belowCell b (ltOf h.q3) h.q3, belowCell b (ltOf h.q4) h.q4, belowCell b (ltOf h.q5) h.q5, h.r1.below b, h.r2.below b⟩
set_option maxRecDepth 100000 in
set_option maxHeartbeats 4000000 in
theorem rowsR_with {w : World} {p1 p2 : Option Addr} {c1 c2 : Nat} {l1 l2 : List V} (h1 : LRd w p1 c1 l1) (h2 : LRd w p2 c2 l2) (f : V → V → Int)
    (hc : ∀ a ∈ l1, ∀ b ∈ l2, ∀ x y W, VRd W a x → VRd W b y → Calls Tryz.prog 19 #[.agg x, .agg y] W fun e w' => e = .returned (.int .i64 (f a b)) ∧ Below W.heap.size W w') :
    Calls Tryz.prog 47 #[.slice p1 l1.length c1, .slice p2 l2.length c2] w fun e w' => e = .returned (.int .i64 (cmpL f l1 l2)) ∧ Below w.heap.size w w' := by
  have z1 : (l1.length : Int) ≤ 140737488355328 := by have := h1.1.1; have := h1.1.2.1; omega
  have z2 : (l2.length : Int) ≤ 140737488355328 := by have := h2.1.1; have := h2.1.2.1; omega
  have H := Lib.hid (And.intro h1 h2)
  have HC := Lib.hid hc
  clear h1 h2 hc
  go_enter Tryz.func47, Tryz.ntmps47
  go_wp2
  go_loopw [5] (fun i wr => ∃ k : Nat, k ≤ l1.length ∧ k ≤ l2.length ∧ i = .int .i64 (k : Int) ∧ Hid (cmpL f l1 l2 = cmpL f (l1.drop k) (l2.drop k) ∧ Below w.heap.size w wr)) (fun i _ => l1.length - (intOf i).toNat)
  case atStart => exact ⟨0, Nat.zero_le _, Nat.zero_le _, rfl, Lib.hid ⟨by simp, Below.refl _ _⟩⟩
  case round =>
    obtain ⟨k, hk, hk2, rfl, HK⟩ := hrel
    by_cases hlt : k < l1.length
    · have hlt1 : k + 1 ≤ l1.length := hlt
      by_cases hlt2 : k < l2.length
      · have hlt3 : k + 1 ≤ l2.length := hlt2
        have hbd := below_trans HK.out.2 (show Below wr.heap.size wr wr.drew from (Below.refl _ _).drew)
        obtain ⟨g1, o1, pk1, ck1, pl1, cl1, rfl, ⟨a0, a1, a2, a3, a4, a5⟩, hv1⟩ := (H.out.1.below hbd).at hlt
        obtain ⟨g2, o2, pk2, ck2, pl2, cl2, rfl, ⟨q0, q1, q2, q3, q4, q5⟩, hv2⟩ := (H.out.2.below hbd).at hlt2
        have hd := cmpL_drop f hlt hlt2
        have hcc := HC.out l1[k] (List.getElem_mem hlt) l2[k] (List.getElem_mem hlt2)
        generalize l1[k] = s1 at *
        generalize l2[k] = s2 at *
        have hU0 : PairU w s1 s2 g1 (o1 + k * 6) g2 (o2 + k * 6) (.int .i64 s1.kind) (.bool s1.b) (.int .i64 s1.n) (.string (strB s1.text)) (.slice pk1 s1.keys.length ck1) (.slice pl1 s1.list.length cl1) (.int .i64 s2.kind) (.bool s2.b) (.int .i64 s2.n) (.string (strB s2.text)) (.slice pk2 s2.keys.length ck2) (.slice pl2 s2.list.length cl2) wr.drew := ⟨hbd, a0, a1, a2, a3, a4, a5, q0, q1, q2, q3, q4, q5, hv1, hv2⟩
        have HCC := Lib.hid hcc
        have HD := Lib.hid hd
        clear a0 a1 a2 a3 a4 a5 q0 q1 q2 q3 q4 q5 hv1 hv2 hcc hd hbd
        go_wp2
        refine plain_region_draws (fun W => PairU w s1 s2 g1 (o1 + k * 6) g2 (o2 + k * 6) (.int .i64 s1.kind) (.bool s1.b) (.int .i64 s1.n) (.string (strB s1.text)) (.slice pk1 s1.keys.length ck1) (.slice pl1 s1.list.length cl1) (.int .i64 s2.kind) (.bool s2.b) (.int .i64 s2.n) (.string (strB s2.text)) (.slice pk2 s2.keys.length ck2) (.slice pl2 s2.list.length cl2) W) (by kernel_rfl) hU0 (fun hU => ?_)
        refine take 0 19 (v := .slice (some ⟨g1, o1, none⟩) l1.length c1) rfl rfl (by kernel_rfl) (by kernel_rfl) (by kernel_rfl) rfl (fun W hW => exec_move rfl rfl) (by assumption) ?_
        simp only [Act.put, List.setIfInBounds_toArray, List.set_cons_zero, List.set_cons_succ]
        refine take 1 20 (v := .int .i64 (k : Int)) rfl rfl (by kernel_rfl) (by kernel_rfl) (by kernel_rfl) rfl (fun W hW => exec_move rfl rfl) (by assumption) ?_
        simp only [Act.put, List.setIfInBounds_toArray, List.set_cons_zero, List.set_cons_succ]
        refine take 2 21 (v := .pointer (some ⟨g1, o1 + k * 6, none⟩)) rfl rfl (by kernel_rfl) (by kernel_rfl) (by kernel_rfl) rfl (fun W hW => exec_indexAddr rfl rfl rfl (ia_vals _ _ _ _ _ hlt W)) (by assumption) ?_
        simp only [Act.put, List.setIfInBounds_toArray, List.set_cons_zero, List.set_cons_succ]
        refine take 3 22 (v := .agg #[.int .i64 s1.kind, .bool s1.b, .int .i64 s1.n, .string (strB s1.text), .slice pk1 s1.keys.length ck1, .slice pl1 s1.list.length cl1]) rfl rfl (by kernel_rfl) (by kernel_rfl) (by kernel_rfl) rfl (fun W hW => exec_load rfl rfl (get_six hW.h0 hW.h1 hW.h2 hW.h3 hW.h4 hW.h5)) (by assumption) ?_
        simp only [Act.put, List.setIfInBounds_toArray, List.set_cons_zero, List.set_cons_succ]
        refine take 4 23 (v := .slice (some ⟨g2, o2, none⟩) l2.length c2) rfl rfl (by kernel_rfl) (by kernel_rfl) (by kernel_rfl) rfl (fun W hW => exec_move rfl rfl) (by assumption) ?_
        simp only [Act.put, List.setIfInBounds_toArray, List.set_cons_zero, List.set_cons_succ]
        refine take 5 24 (v := .int .i64 (k : Int)) rfl rfl (by kernel_rfl) (by kernel_rfl) (by kernel_rfl) rfl (fun W hW => exec_move rfl rfl) (by assumption) ?_
        simp only [Act.put, List.setIfInBounds_toArray, List.set_cons_zero, List.set_cons_succ]
        refine take 6 25 (v := .pointer (some ⟨g2, o2 + k * 6, none⟩)) rfl rfl (by kernel_rfl) (by kernel_rfl) (by kernel_rfl) rfl (fun W hW => exec_indexAddr rfl rfl rfl (ia_vals _ _ _ _ _ hlt2 W)) (by assumption) ?_
        simp only [Act.put, List.setIfInBounds_toArray, List.set_cons_zero, List.set_cons_succ]
        refine take 7 26 (v := .agg #[.int .i64 s2.kind, .bool s2.b, .int .i64 s2.n, .string (strB s2.text), .slice pk2 s2.keys.length ck2, .slice pl2 s2.list.length cl2]) rfl rfl (by kernel_rfl) (by kernel_rfl) (by kernel_rfl) rfl (fun W hW => exec_load rfl rfl (get_six hW.q0 hW.q1 hW.q2 hW.q3 hW.q4 hW.q5)) (by assumption) ?_
        simp only [Act.put, List.setIfInBounds_toArray, List.set_cons_zero, List.set_cons_succ]
        refine onlyCall 8 27 rfl rfl (by kernel_rfl) rfl (exec_call [.agg #[.int .i64 s1.kind, .bool s1.b, .int .i64 s1.n, .string (strB s1.text), .slice pk1 s1.keys.length ck1, .slice pl1 s1.list.length cl1], .agg #[.int .i64 s2.kind, .bool s2.b, .int .i64 s2.n, .string (strB s2.text), .slice pk2 s2.keys.length ck2, .slice pl2 s2.list.length cl2]] rfl rfl Tryz.func19 (by kernel_rfl) (by kernel_rfl)) ?_
        refine (HCC.out _ _ _ hU.r1 hU.r2).mono ?_
        rintro e w5 ⟨rfl, hb5⟩
        have hU2 := hU.keep hb5
        clear hb5
        refine ⟨_, rfl, .inr hU2, ?_⟩
        simp only [Act.put, List.setIfInBounds_toArray, List.set_cons_zero, List.set_cons_succ]
        refine take 9 6 (v := .int .i64 (f s1 s2)) rfl rfl (by kernel_rfl) (by kernel_rfl) (by kernel_rfl) rfl (fun W hW => exec_assign rfl rfl) (by assumption) ?_
        simp only [Act.put, List.setIfInBounds_toArray, List.set_cons_zero, List.set_cons_succ]
        refine done (by kernel_rfl) ?_ _
        have HB := Lib.hid hU2.b
        clear hU hU0 hU2 HCC
        by_cases e : f s1 s2 = 0
        · have d : (f s1 s2 != 0) = false := by simp [e]
          have HE := Lib.hid (HK.out.1.trans (by rw [HD.out, if_neg (by simpa using e)]))
          clear e HD HK
          go_wp2
          go_roundw
          case rel => exact ⟨k + 1, by omega, by omega, by go_num, Lib.hid ⟨HE.out, HB.out⟩⟩
          case measure => simp [intOf]; omega
        · have d : (f s1 s2 != 0) = true := by simpa using e
          have HE := Lib.hid (HK.out.1.trans (by rw [HD.out, if_pos (by simpa using e)]))
          clear e HD HK
          go_wp2
          go_ret
          exact ⟨ret_int HE.out.symm, HB.out⟩
      · have hk3 : k = l2.length := by omega
        have HE := Lib.hid (HK.out.1.trans (cmpL_over f hlt (by omega)))
        have HB := Lib.hid HK.out.2
        have hci : cmpI (l1.length : Int) (l2.length : Int) = 1 := by unfold cmpI; rw [if_neg (by omega), if_pos (by omega)]
        clear HK
        go_wp2_with (go_at_call 59; refine (ints_any _ _ _).mono ?_; rintro e w' ⟨rfl, rfl⟩)
        go_ret
        exact ⟨ret_int HE.out.symm, HB.out⟩
    · by_cases hlt2 : k < l2.length
      · have HE := Lib.hid (HK.out.1.trans (cmpL_under f (by omega) hlt2))
        have HB := Lib.hid HK.out.2
        have hci : cmpI (l1.length : Int) (l2.length : Int) = -1 := by unfold cmpI; rw [if_pos (by omega)]
        clear HK
        go_wp2_with (go_at_call 59; refine (ints_any _ _ _).mono ?_; rintro e w' ⟨rfl, rfl⟩)
        go_ret
        exact ⟨ret_int HE.out.symm, HB.out⟩
      · have HE := Lib.hid (HK.out.1.trans (cmpL_out f (by omega) (by omega)))
        have HB := Lib.hid HK.out.2
        have hci : cmpI (l1.length : Int) (l2.length : Int) = 0 := by unfold cmpI; rw [if_neg (by omega), if_neg (by omega)]
        clear HK
        go_wp2_with (go_at_call 59; refine (ints_any _ _ _).mono ?_; rintro e w' ⟨rfl, rfl⟩)
        go_ret
        exact ⟨ret_int HE.out.symm, HB.out⟩
/-- Two boxes, and a key of each. -/
structure KeyTwo (w : World) (X Y : Array Value) (b1 o1 b2 o2 : Nat) (s1 s2 : List UInt8) (W : World) : Prop where
  two : TwoV w W X Y
  one : W.cell? ⟨b1, o1, none⟩ = some (.string (strB s1))
  sec : W.cell? ⟨b2, o2, none⟩ = some (.string (strB s2))
theorem KeyTwo.keep {w W W' : World} {X Y : Array Value} {b1 o1 b2 o2 : Nat} {s1 s2 : List UInt8} (h : KeyTwo w X Y b1 o1 b2 o2 s1 s2 W) (b : Below W.heap.size W W') : KeyTwo w X Y b1 o1 b2 o2 s1 s2 W' :=
  ⟨h.two.below b, belowCell b (ltOf h.one) h.one, belowCell b (ltOf h.sec) h.sec⟩
theorem orI_pos {a : Int} (b : Int) (h : a ≠ 0) : orI a b = a := by unfold orI; rw [if_pos h]
set_option maxRecDepth 100000 in
set_option maxHeartbeats 4000000 in
theorem compareR_any {u : List UInt8 → Bool} : ∀ a : V, mayV u a = true → ∀ b : V, mayV u b = true → ∀ (w : World) (x y : Array Value), VRd w a x → VRd w b y →
    Calls Tryz.prog 19 #[.agg x, .agg y] w fun e w' => e = .returned (.int .i64 (cmpV a b)) ∧ Below w.heap.size w w' := by
  refine V.ind fun k b n t ks l ih => ?_
  intro ha v hb w x y hx hy
  obtain ⟨ha1, ha2⟩ := mayV_iff.1 ha
  obtain ⟨hb1, hb2⟩ := mayV_iff.1 hb
  have f1 := oneV_iff.1 ha1
  have f2 := oneV_iff.1 hb1
  obtain ⟨pk, ck, pl, cl, rfl, tx1, hk1, hl1⟩ := hx.open
  obtain ⟨pk', ck', pl', cl', rfl, tx2, hk2, hl2⟩ := hy.open
  have hrank := @cmpV_rank (.mk k b n t ks l) v
  have hbool := cmpV_bool f1 f2
  have htext := cmpV_text f1 f2
  have hrest := cmpV_rest f1 f2
  cases v with
  | mk k' b' n' t' ks' l' =>
  have hinj : rankV k = rankV k' → k = k' := rankV_inj f1.lo f1.hi f2.lo f2.hi
  have hks : k ≠ 5 → ks = [] := f1.keys
  have hks' : k' ≠ 5 → ks' = [] := f2.keys
  have hls : k ≠ 4 → k ≠ 5 → l = [] := f1.list
  have hls' : k' ≠ 4 → k' ≠ 5 → l' = [] := f2.list
  have hn : k = 4 ∨ k = 5 → n = 0 := fun h => f1.n (show k ≠ 2 by omega) (show k ≠ 6 by omega) (show k ≠ 7 by omega)
  have hn' : k' = 4 ∨ k' = 5 → n' = 0 := fun h => f2.n (show k' ≠ 2 by omega) (show k' ≠ 6 by omega) (show k' ≠ 7 by omega)
  have lo : 0 ≤ k := f1.lo
  have hi : k ≤ 7 := f1.hi
  have lo' : 0 ≤ k' := f2.lo
  have hi' : k' ≤ 7 := f2.hi
  simp only [V.kind, V.b, V.n, V.text, V.keys, V.list] at hrank hbool htext hrest tx1 tx2 hk1 hk2 hl1 hl2 ⊢
  have hihl : ∀ a ∈ l, ∀ b ∈ l', ∀ x y W, VRd W a x → VRd W b y → Calls Tryz.prog 19 #[.agg x, .agg y] W fun e w' => e = .returned (.int .i64 (cmpV a b)) ∧ Below W.heap.size W w' := fun a ha b hb x y W hx hy => ih a ha (ha2 a ha) b (hb2 b hb) W x y hx hy
  generalize cmpV (.mk k b n t ks l) (.mk k' b' n' t' ks' l') = R at *
  have hT := TwoV.start w #[.int .i64 k, .bool b, .int .i64 n, .string (strB t), .slice pk ks.length ck, .slice pl l.length cl] #[.int .i64 k', .bool b', .int .i64 n', .string (strB t'), .slice pk' ks'.length ck', .slice pl' l'.length cl']
  have HI := Lib.hid hihl
  have z1 : (ks.length : Int) ≤ 140737488355328 := by have := hk1.1; have := hk1.2.1; omega
  have z2 : (ks'.length : Int) ≤ 140737488355328 := by have := hk2.1; have := hk2.2.1; omega
  have c0 := cellOf (o := 0) hT.1 rfl; have c1 := cellOf (o := 1) hT.1 rfl; have c2 := cellOf (o := 2) hT.1 rfl; have c3 := cellOf (o := 3) hT.1 rfl; have c4 := cellOf (o := 4) hT.1 rfl; have c5 := cellOf (o := 5) hT.1 rfl
  have q0 := cellOf (o := 0) hT.2.1 rfl; have q1 := cellOf (o := 1) hT.2.1 rfl; have q2 := cellOf (o := 2) hT.2.1 rfl; have q3 := cellOf (o := 3) hT.2.1 rfl; have q4 := cellOf (o := 4) hT.2.1 rfl; have q5 := cellOf (o := 5) hT.2.1 rfl
  have HT := Lib.hid hT
  have HRW := Lib.hid (fun (W : World) (hb : Below w.heap.size w W) => rowsR_with (hl1.below hb) (hl2.below hb) cmpV hihl)
  have HKS := Lib.hid (And.intro hk1 hk2)
  clear ih ha hb ha1 ha2 hb1 hb2 f1 f2 hx hy hihl hT hk1 hk2 hl1 hl2
  by_cases hkk : k = k'
  · subst hkk
    have dk : (k != k) = false := by simp
    clear hrank hinj
    by_cases e1 : k = 1
    · subst e1
      have hR : cmpI (b2i b) (b2i b') = R := (hbool rfl rfl).symm
      have HR := Lib.hid hR
      clear hbool htext hrest hR dk hks hks' hls hls' hn hn' lo hi lo' hi'
      cases b <;> cases b'
      all_goals
        go_enter Tryz.func19, Tryz.ntmps19
        go_wp2
        go_ret
        exact ⟨ret_int HR.out, HT.out.2.2⟩
    · by_cases e3 : k = 3
      · subst e3
        have hR : cmpB t t' = R := (htext rfl rfl).symm
        have HR := Lib.hid hR
        have HC := Lib.hid (fun W => texts_any t t' tx1 tx2 W)
        clear hbool htext hrest hR dk hks hks' hls hls' hn hn' lo hi lo' hi' e1
        go_enter Tryz.func19, Tryz.ntmps19
        go_wp2_with (go_at_call 61; refine (HC.out _).mono ?_; rintro e w3 ⟨rfl, hb3⟩; have HB := Lib.hid (HT.out.below hb3); clear hb3)
        go_ret
        exact ⟨ret_int HR.out, HB.out.2.2⟩
      · have hR := (hrest rfl e1 e3).symm
        clear hbool htext hrest dk
        by_cases e5 : k = 5
        · subst e5
          clear hks hks' hls hls' lo hi lo' hi' e1 e3
          rw [hn (.inr rfl), hn' (.inr rfl), show cmpI 0 0 = 0 from rfl, orI_zero_right] at hR
          have HR := Lib.hid hR
          clear hn hn' hR
          go_enter Tryz.func19, Tryz.ntmps19
          go_wp2
          have HT0 := HT
          clear c0 c1 c2 c3 c4 c5 q0 q1 q2 q3 q4 q5
          go_loopw [5] (fun i wr => ∃ j : Nat, j ≤ ks.length ∧ j ≤ ks'.length ∧ i = .int .i64 (j : Int) ∧ Hid (cmpL cmpB ks ks' = cmpL cmpB (ks.drop j) (ks'.drop j)) ∧ Hid (TwoV w wr #[.int .i64 5, .bool b, .int .i64 n, .string (strB t), .slice pk ks.length ck, .slice pl l.length cl] #[.int .i64 5, .bool b', .int .i64 n', .string (strB t'), .slice pk' ks'.length ck', .slice pl' l'.length cl'])) (fun i _ => ks.length - (intOf i).toNat)
          case atStart => exact ⟨0, Nat.zero_le _, Nat.zero_le _, rfl, Lib.hid (by simp), HT0⟩
          case round =>
            clear HT HT0
            obtain ⟨j, hj, hj2, rfl, HQ, HT⟩ := hrel
            have hT1 := HT.out
            have c4 := cellOf (o := 4) hT1.1 rfl; have c5 := cellOf (o := 5) hT1.1 rfl
            have q4 := cellOf (o := 4) hT1.2.1 rfl; have q5 := cellOf (o := 5) hT1.2.1 rfl
            by_cases hlt : j < ks.length
            · have hlt1 : j + 1 ≤ ks.length := hlt
              by_cases hlt2 : j < ks'.length
              · have hlt3 : j + 1 ≤ ks'.length := hlt2
                have hbd : Below w.heap.size w wr.drew := below_trans hT1.2.2 (Below.refl _ _).drew
                obtain ⟨b1, o1, rfl, r1, y1⟩ := (HKS.out.1.below hbd).get hlt
                obtain ⟨b2, o2, rfl, r2, y2⟩ := (HKS.out.2.below hbd).get hlt2
                have hd := cmpL_drop cmpB hlt hlt2
                have hcu := fun (W : World) => texts_any ks[j] ks'[j] y1 y2 W
                generalize ks[j] = s1 at *
                generalize ks'[j] = s2 at *
                have hU0 : KeyTwo w #[.int .i64 5, .bool b, .int .i64 n, .string (strB t), .slice (some ⟨b1, o1, none⟩) ks.length ck, .slice pl l.length cl] #[.int .i64 5, .bool b', .int .i64 n', .string (strB t'), .slice (some ⟨b2, o2, none⟩) ks'.length ck', .slice pl' l'.length cl'] b1 (o1 + j) b2 (o2 + j) s1 s2 wr.drew := ⟨hT1.below (Below.refl _ _).drew, r1, r2⟩
                have HD := Lib.hid (And.intro hd hcu)
                clear hd hcu r1 r2 y1 y2 hbd hT1
                go_wp2
                by_cases e : s1 = s2
                · subst e
                  have hne : ∀ W, (binOp .neq 9 (.string (strB s1)) (.string (strB s1))).run Tryz.prog W = .ok (.bool false) W := fun W => by rw [run_neStr]; simp
                  have hz : cmpB s1 s1 = 0 := cmpB_self _
                  have hE := HQ.out.trans (by rw [HD.out.1, if_neg (by simpa using hz)])
                  have HE := Lib.hid hE
                  clear hz hE HD
                  refine plain_region_draws (fun W => KeyTwo w #[.int .i64 5, .bool b, .int .i64 n, .string (strB t), .slice (some ⟨b1, o1, none⟩) ks.length ck, .slice pl l.length cl] #[.int .i64 5, .bool b', .int .i64 n', .string (strB t'), .slice (some ⟨b2, o2, none⟩) ks'.length ck', .slice pl' l'.length cl'] b1 (o1 + j) b2 (o2 + j) s1 s1 W) (by kernel_rfl) hU0 (fun hU => ?_)
                  refine take 0 52 (v := .pointer (some ⟨w.heap.size, 4, none⟩)) rfl rfl (by kernel_rfl) (by kernel_rfl) (by kernel_rfl) rfl (fun W hW => exec_fieldAddr rfl rfl (fa_value _ _ (by decide) W)) (by assumption) ?_
                  simp only [Act.put, List.setIfInBounds_toArray, List.set_cons_zero, List.set_cons_succ]
                  refine take 1 53 (v := .slice (some ⟨b1, o1, none⟩) ks.length ck) rfl rfl (by kernel_rfl) (by kernel_rfl) (by kernel_rfl) rfl (fun W hW => exec_load rfl rfl (run_load1 (w := W) Tryz.underlying23 rfl (cellOf hW.two.1 rfl))) (by assumption) ?_
                  simp only [Act.put, List.setIfInBounds_toArray, List.set_cons_zero, List.set_cons_succ]
                  refine take 2 54 (v := .int .i64 (j : Int)) rfl rfl (by kernel_rfl) (by kernel_rfl) (by kernel_rfl) rfl (fun W hW => exec_move rfl rfl) (by assumption) ?_
                  simp only [Act.put, List.setIfInBounds_toArray, List.set_cons_zero, List.set_cons_succ]
                  refine take 3 55 (v := .pointer (some ⟨b1, o1 + j, none⟩)) rfl rfl (by kernel_rfl) (by kernel_rfl) (by kernel_rfl) rfl (fun W hW => exec_indexAddr rfl rfl rfl (ia_keys _ _ _ _ _ hlt W)) (by assumption) ?_
                  simp only [Act.put, List.setIfInBounds_toArray, List.set_cons_zero, List.set_cons_succ]
                  refine take 4 56 (v := .string (strB s1)) rfl rfl (by kernel_rfl) (by kernel_rfl) (by kernel_rfl) rfl (fun W hW => exec_load rfl rfl (run_load1 (w := W) Tryz.underlying9 rfl hW.one)) (by assumption) ?_
                  simp only [Act.put, List.setIfInBounds_toArray, List.set_cons_zero, List.set_cons_succ]
                  refine take 5 57 (v := .pointer (some ⟨w.heap.size + 1, 4, none⟩)) rfl rfl (by kernel_rfl) (by kernel_rfl) (by kernel_rfl) rfl (fun W hW => exec_fieldAddr rfl rfl (fa_value _ _ (by decide) W)) (by assumption) ?_
                  simp only [Act.put, List.setIfInBounds_toArray, List.set_cons_zero, List.set_cons_succ]
                  refine take 6 58 (v := .slice (some ⟨b2, o2, none⟩) ks'.length ck') rfl rfl (by kernel_rfl) (by kernel_rfl) (by kernel_rfl) rfl (fun W hW => exec_load rfl rfl (run_load1 (w := W) Tryz.underlying23 rfl (cellOf hW.two.2.1 rfl))) (by assumption) ?_
                  simp only [Act.put, List.setIfInBounds_toArray, List.set_cons_zero, List.set_cons_succ]
                  refine take 7 59 (v := .int .i64 (j : Int)) rfl rfl (by kernel_rfl) (by kernel_rfl) (by kernel_rfl) rfl (fun W hW => exec_move rfl rfl) (by assumption) ?_
                  simp only [Act.put, List.setIfInBounds_toArray, List.set_cons_zero, List.set_cons_succ]
                  refine take 8 60 (v := .pointer (some ⟨b2, o2 + j, none⟩)) rfl rfl (by kernel_rfl) (by kernel_rfl) (by kernel_rfl) rfl (fun W hW => exec_indexAddr rfl rfl rfl (ia_keys _ _ _ _ _ hlt2 W)) (by assumption) ?_
                  simp only [Act.put, List.setIfInBounds_toArray, List.set_cons_zero, List.set_cons_succ]
                  refine take 9 61 (v := .string (strB s1)) rfl rfl (by kernel_rfl) (by kernel_rfl) (by kernel_rfl) rfl (fun W hW => exec_load rfl rfl (run_load1 (w := W) Tryz.underlying9 rfl hW.sec)) (by assumption) ?_
                  simp only [Act.put, List.setIfInBounds_toArray, List.set_cons_zero, List.set_cons_succ]
                  refine take 10 62 (v := .bool false) rfl rfl (by kernel_rfl) (by kernel_rfl) (by kernel_rfl) rfl (fun W hW => exec_bins rfl rfl rfl (hne W)) (by assumption) ?_
                  simp only [Act.put, List.setIfInBounds_toArray, List.set_cons_zero, List.set_cons_succ]
                  refine done (by kernel_rfl) ?_ _
                  have HT0 := Lib.hid hU.two
                  have c4 := cellOf (o := 4) hU.two.1 rfl
                  have q4 := cellOf (o := 4) hU.two.2.1 rfl
                  clear hU hU0 hne HQ
                  go_wp2
                  go_roundw
                  case rel => exact ⟨j + 1, by omega, by omega, by go_num, HE, HT0⟩
                  case measure => simp [intOf]; omega
                · have hne : ∀ W, (binOp .neq 9 (.string (strB s1)) (.string (strB s2))).run Tryz.prog W = .ok (.bool true) W := fun W => by rw [run_neStr]; simpa using e
                  have hz : cmpB s1 s2 ≠ 0 := fun h => e (cmpB_zero h)
                  have hE : cmpL cmpB ks ks' = cmpB s1 s2 := HQ.out.trans (by rw [HD.out.1, if_pos hz])
                  have hF : cmpB s1 s2 = R := by
                    have h := HR.out
                    rw [hE, orI_pos _ hz] at h
                    exact h
                  have HF := Lib.hid hF
                  clear hz hE hF e
                  refine plain_region_draws (fun W => KeyTwo w #[.int .i64 5, .bool b, .int .i64 n, .string (strB t), .slice (some ⟨b1, o1, none⟩) ks.length ck, .slice pl l.length cl] #[.int .i64 5, .bool b', .int .i64 n', .string (strB t'), .slice (some ⟨b2, o2, none⟩) ks'.length ck', .slice pl' l'.length cl'] b1 (o1 + j) b2 (o2 + j) s1 s2 W) (by kernel_rfl) hU0 (fun hU => ?_)
                  refine take 0 52 (v := .pointer (some ⟨w.heap.size, 4, none⟩)) rfl rfl (by kernel_rfl) (by kernel_rfl) (by kernel_rfl) rfl (fun W hW => exec_fieldAddr rfl rfl (fa_value _ _ (by decide) W)) (by assumption) ?_
                  simp only [Act.put, List.setIfInBounds_toArray, List.set_cons_zero, List.set_cons_succ]
                  refine take 1 53 (v := .slice (some ⟨b1, o1, none⟩) ks.length ck) rfl rfl (by kernel_rfl) (by kernel_rfl) (by kernel_rfl) rfl (fun W hW => exec_load rfl rfl (run_load1 (w := W) Tryz.underlying23 rfl (cellOf hW.two.1 rfl))) (by assumption) ?_
                  simp only [Act.put, List.setIfInBounds_toArray, List.set_cons_zero, List.set_cons_succ]
                  refine take 2 54 (v := .int .i64 (j : Int)) rfl rfl (by kernel_rfl) (by kernel_rfl) (by kernel_rfl) rfl (fun W hW => exec_move rfl rfl) (by assumption) ?_
                  simp only [Act.put, List.setIfInBounds_toArray, List.set_cons_zero, List.set_cons_succ]
                  refine take 3 55 (v := .pointer (some ⟨b1, o1 + j, none⟩)) rfl rfl (by kernel_rfl) (by kernel_rfl) (by kernel_rfl) rfl (fun W hW => exec_indexAddr rfl rfl rfl (ia_keys _ _ _ _ _ hlt W)) (by assumption) ?_
                  simp only [Act.put, List.setIfInBounds_toArray, List.set_cons_zero, List.set_cons_succ]
                  refine take 4 56 (v := .string (strB s1)) rfl rfl (by kernel_rfl) (by kernel_rfl) (by kernel_rfl) rfl (fun W hW => exec_load rfl rfl (run_load1 (w := W) Tryz.underlying9 rfl hW.one)) (by assumption) ?_
                  simp only [Act.put, List.setIfInBounds_toArray, List.set_cons_zero, List.set_cons_succ]
                  refine take 5 57 (v := .pointer (some ⟨w.heap.size + 1, 4, none⟩)) rfl rfl (by kernel_rfl) (by kernel_rfl) (by kernel_rfl) rfl (fun W hW => exec_fieldAddr rfl rfl (fa_value _ _ (by decide) W)) (by assumption) ?_
                  simp only [Act.put, List.setIfInBounds_toArray, List.set_cons_zero, List.set_cons_succ]
                  refine take 6 58 (v := .slice (some ⟨b2, o2, none⟩) ks'.length ck') rfl rfl (by kernel_rfl) (by kernel_rfl) (by kernel_rfl) rfl (fun W hW => exec_load rfl rfl (run_load1 (w := W) Tryz.underlying23 rfl (cellOf hW.two.2.1 rfl))) (by assumption) ?_
                  simp only [Act.put, List.setIfInBounds_toArray, List.set_cons_zero, List.set_cons_succ]
                  refine take 7 59 (v := .int .i64 (j : Int)) rfl rfl (by kernel_rfl) (by kernel_rfl) (by kernel_rfl) rfl (fun W hW => exec_move rfl rfl) (by assumption) ?_
                  simp only [Act.put, List.setIfInBounds_toArray, List.set_cons_zero, List.set_cons_succ]
                  refine take 8 60 (v := .pointer (some ⟨b2, o2 + j, none⟩)) rfl rfl (by kernel_rfl) (by kernel_rfl) (by kernel_rfl) rfl (fun W hW => exec_indexAddr rfl rfl rfl (ia_keys _ _ _ _ _ hlt2 W)) (by assumption) ?_
                  simp only [Act.put, List.setIfInBounds_toArray, List.set_cons_zero, List.set_cons_succ]
                  refine take 9 61 (v := .string (strB s2)) rfl rfl (by kernel_rfl) (by kernel_rfl) (by kernel_rfl) rfl (fun W hW => exec_load rfl rfl (run_load1 (w := W) Tryz.underlying9 rfl hW.sec)) (by assumption) ?_
                  simp only [Act.put, List.setIfInBounds_toArray, List.set_cons_zero, List.set_cons_succ]
                  refine take 10 62 (v := .bool true) rfl rfl (by kernel_rfl) (by kernel_rfl) (by kernel_rfl) rfl (fun W hW => exec_bins rfl rfl rfl (hne W)) (by assumption) ?_
                  simp only [Act.put, List.setIfInBounds_toArray, List.set_cons_zero, List.set_cons_succ]
                  refine done (by kernel_rfl) ?_ _
                  clear hU0 hne
                  go_wp2
                  have hU1 := hU.keep (show Below _ _ _ from (Below.refl _ _).drew)
                  clear hU
                  refine plain_region_draws (fun W => KeyTwo w #[.int .i64 5, .bool b, .int .i64 n, .string (strB t), .slice (some ⟨b1, o1, none⟩) ks.length ck, .slice pl l.length cl] #[.int .i64 5, .bool b', .int .i64 n', .string (strB t'), .slice (some ⟨b2, o2, none⟩) ks'.length ck', .slice pl' l'.length cl'] b1 (o1 + j) b2 (o2 + j) s1 s2 W) (by kernel_rfl) hU1 (fun hU => ?_)
                  refine take 0 63 (v := .pointer (some ⟨w.heap.size, 4, none⟩)) rfl rfl (by kernel_rfl) (by kernel_rfl) (by kernel_rfl) rfl (fun W hW => exec_fieldAddr rfl rfl (fa_value _ _ (by decide) W)) (by assumption) ?_
                  simp only [Act.put, List.setIfInBounds_toArray, List.set_cons_zero, List.set_cons_succ]
                  refine take 1 64 (v := .slice (some ⟨b1, o1, none⟩) ks.length ck) rfl rfl (by kernel_rfl) (by kernel_rfl) (by kernel_rfl) rfl (fun W hW => exec_load rfl rfl (run_load1 (w := W) Tryz.underlying23 rfl (cellOf hW.two.1 rfl))) (by assumption) ?_
                  simp only [Act.put, List.setIfInBounds_toArray, List.set_cons_zero, List.set_cons_succ]
                  refine take 2 65 (v := .int .i64 (j : Int)) rfl rfl (by kernel_rfl) (by kernel_rfl) (by kernel_rfl) rfl (fun W hW => exec_move rfl rfl) (by assumption) ?_
                  simp only [Act.put, List.setIfInBounds_toArray, List.set_cons_zero, List.set_cons_succ]
                  refine take 3 66 (v := .pointer (some ⟨b1, o1 + j, none⟩)) rfl rfl (by kernel_rfl) (by kernel_rfl) (by kernel_rfl) rfl (fun W hW => exec_indexAddr rfl rfl rfl (ia_keys _ _ _ _ _ hlt W)) (by assumption) ?_
                  simp only [Act.put, List.setIfInBounds_toArray, List.set_cons_zero, List.set_cons_succ]
                  refine take 4 67 (v := .string (strB s1)) rfl rfl (by kernel_rfl) (by kernel_rfl) (by kernel_rfl) rfl (fun W hW => exec_load rfl rfl (run_load1 (w := W) Tryz.underlying9 rfl hW.one)) (by assumption) ?_
                  simp only [Act.put, List.setIfInBounds_toArray, List.set_cons_zero, List.set_cons_succ]
                  refine take 5 68 (v := .pointer (some ⟨w.heap.size + 1, 4, none⟩)) rfl rfl (by kernel_rfl) (by kernel_rfl) (by kernel_rfl) rfl (fun W hW => exec_fieldAddr rfl rfl (fa_value _ _ (by decide) W)) (by assumption) ?_
                  simp only [Act.put, List.setIfInBounds_toArray, List.set_cons_zero, List.set_cons_succ]
                  refine take 6 69 (v := .slice (some ⟨b2, o2, none⟩) ks'.length ck') rfl rfl (by kernel_rfl) (by kernel_rfl) (by kernel_rfl) rfl (fun W hW => exec_load rfl rfl (run_load1 (w := W) Tryz.underlying23 rfl (cellOf hW.two.2.1 rfl))) (by assumption) ?_
                  simp only [Act.put, List.setIfInBounds_toArray, List.set_cons_zero, List.set_cons_succ]
                  refine take 7 70 (v := .int .i64 (j : Int)) rfl rfl (by kernel_rfl) (by kernel_rfl) (by kernel_rfl) rfl (fun W hW => exec_move rfl rfl) (by assumption) ?_
                  simp only [Act.put, List.setIfInBounds_toArray, List.set_cons_zero, List.set_cons_succ]
                  refine take 8 71 (v := .pointer (some ⟨b2, o2 + j, none⟩)) rfl rfl (by kernel_rfl) (by kernel_rfl) (by kernel_rfl) rfl (fun W hW => exec_indexAddr rfl rfl rfl (ia_keys _ _ _ _ _ hlt2 W)) (by assumption) ?_
                  simp only [Act.put, List.setIfInBounds_toArray, List.set_cons_zero, List.set_cons_succ]
                  refine take 9 72 (v := .string (strB s2)) rfl rfl (by kernel_rfl) (by kernel_rfl) (by kernel_rfl) rfl (fun W hW => exec_load rfl rfl (run_load1 (w := W) Tryz.underlying9 rfl hW.sec)) (by assumption) ?_
                  simp only [Act.put, List.setIfInBounds_toArray, List.set_cons_zero, List.set_cons_succ]
                  refine onlyCall 10 73 rfl rfl (by kernel_rfl) rfl (exec_call [.string (strB s1), .string (strB s2)] rfl rfl Tryz.func61 (by kernel_rfl) (by kernel_rfl)) ?_
                  refine (HD.out.2 _).mono ?_
                  rintro e w5 ⟨rfl, hb5⟩
                  have hU2 := hU.keep hb5
                  clear hb5
                  refine ⟨_, rfl, .inr hU2, ?_⟩
                  simp only [Act.put, List.setIfInBounds_toArray, List.set_cons_zero, List.set_cons_succ]
                  refine take 11 4 (v := .int .i64 (cmpB s1 s2)) rfl rfl (by kernel_rfl) (by kernel_rfl) (by kernel_rfl) rfl (fun W hW => exec_assign rfl rfl) (by assumption) ?_
                  simp only [Act.put, List.setIfInBounds_toArray, List.set_cons_zero, List.set_cons_succ]
                  refine done (by kernel_rfl) ?_ _
                  have HB := Lib.hid hU2.two.2.2
                  clear hU1 hU hU2
                  go_wp2
                  go_ret
                  exact ⟨ret_int HF.out, HB.out⟩
              · have hE := HQ.out.trans (cmpL_over cmpB hlt (by omega))
                have hci : cmpI (ks.length : Int) (ks'.length : Int) = 1 := by unfold cmpI; rw [if_neg (by omega), if_pos (by omega)]
                have hne : ((ks.length : Int) != (ks'.length : Int)) = true := by simp; omega
                have hF : (1 : Int) = R := by
                  have h := HR.out
                  rw [hE, orI_pos _ (by decide)] at h
                  exact h
                have HF := Lib.hid hF
                clear hE hF hT1
                go_wp2_with (go_at_call 59; refine (ints_any _ _ _).mono ?_; rintro e w' ⟨rfl, rfl⟩)
                go_ret
                exact ⟨ret_int HF.out, HT.out.2.2⟩
            · by_cases hlt2 : j < ks'.length
              · have hE := HQ.out.trans (cmpL_under cmpB (by omega) hlt2)
                have hci : cmpI (ks.length : Int) (ks'.length : Int) = -1 := by unfold cmpI; rw [if_pos (by omega)]
                have hne : ((ks.length : Int) != (ks'.length : Int)) = true := by simp; omega
                have hF : (-1 : Int) = R := by
                  have h := HR.out
                  rw [hE, orI_pos _ (by decide)] at h
                  exact h
                have HF := Lib.hid hF
                clear hE hF hT1
                go_wp2_with (go_at_call 59; refine (ints_any _ _ _).mono ?_; rintro e w' ⟨rfl, rfl⟩)
                go_ret
                exact ⟨ret_int HF.out, HT.out.2.2⟩
              · have hE := HQ.out.trans (cmpL_out cmpB (by omega) (by omega))
                have hne : ((ks.length : Int) != (ks'.length : Int)) = false := by simp; omega
                have hF : cmpL cmpV l l' = R := by
                  have h := HR.out
                  rw [hE, orI_zero_left] at h
                  exact h
                have HF := Lib.hid hF
                clear hE hF hT1
                go_wp2_with (go_at_call 47; refine (HRW.out _ HT.out.2.2).mono ?_; rintro e w3 ⟨rfl, hb3⟩; have HB := Lib.hid (below_trans HT.out.2.2 hb3); clear hb3)
                go_ret
                exact ⟨ret_int HF.out, HB.out⟩
        · by_cases e4 : k = 4
          · subst e4
            rw [hn (.inl rfl), hn' (.inl rfl), hks (by decide), hks' (by decide), show cmpI 0 0 = 0 from rfl, orI_zero_right, show cmpL cmpB [] [] = 0 from rfl, orI_zero_left] at hR
            have HR := Lib.hid hR
            clear hks hks' hls hls' lo hi lo' hi' e1 e3 e5 hn hn' hR
            go_enter Tryz.func19, Tryz.ntmps19
            go_wp2_with (go_at_call 47; refine (HRW.out _ HT.out.2.2).mono ?_; rintro e w3 ⟨rfl, hb3⟩; have HB := Lib.hid (below_trans HT.out.2.2 hb3); clear hb3)
            go_ret
            exact ⟨ret_int HR.out, HB.out⟩
          · have d1 : (k == 1) = false := by simpa using e1
            have d3 : (k == 3) = false := by simpa using e3
            have d4 : (k == 4) = false := by simpa using e4
            have d5 : (k == 5) = false := by simpa using e5
            rw [hks e5, hks' e5, hls e4 e5, hls' e4 e5, show cmpL cmpV [] [] = 0 from rfl, orI_zero_left, show cmpL cmpB [] [] = 0 from rfl, orI_zero_left] at hR
            have HR := Lib.hid hR
            clear hks hks' hls hls' lo hi lo' hi' e1 e3 e5 e4 hn hn' hR
            go_enter Tryz.func19, Tryz.ntmps19
            go_wp2_with (go_at_call 59; refine (ints_any _ _ _).mono ?_; rintro e w' ⟨rfl, rfl⟩)
            go_ret
            exact ⟨ret_int HR.out, HT.out.2.2⟩
  · have dk : (k != k') = true := by simpa using hkk
    have hz : cmpI (rankV k) (rankV k') ≠ 0 := fun h => hkk (hinj (cmpI_zero h))
    have HR := Lib.hid (hrank hz).symm
    have HN := Lib.hid (And.intro (And.intro lo hi) (And.intro lo' hi'))
    have hU0 := HT.out.below (Below.refl _ _).drew
    clear hbool htext hrest hrank hinj hkk hz hks hks' hls hls' hn hn' lo hi lo' hi'
    go_enter Tryz.func19, Tryz.ntmps19
    go_wp2
    refine plain_region_draws (fun W => TwoV w W #[.int .i64 k, .bool b, .int .i64 n, .string (strB t), .slice pk ks.length ck, .slice pl l.length cl] #[.int .i64 k', .bool b', .int .i64 n', .string (strB t'), .slice pk' ks'.length ck', .slice pl' l'.length cl']) (by kernel_rfl) hU0 (fun hU => ?_)
    refine take 0 11 (v := .pointer (some ⟨w.heap.size, 0, none⟩)) rfl rfl (by kernel_rfl) (by kernel_rfl) (by kernel_rfl) rfl (fun W hW => exec_fieldAddr rfl rfl (fa_value _ _ (by decide) W)) (by assumption) ?_
    simp only [Act.put, List.setIfInBounds_toArray, List.set_cons_zero, List.set_cons_succ]
    refine take 1 12 (v := .int .i64 k) rfl rfl (by kernel_rfl) (by kernel_rfl) (by kernel_rfl) rfl (fun W hW => exec_load rfl rfl (run_load1 (w := W) Tryz.underlying22 rfl (cellOf hW.1 rfl))) (by assumption) ?_
    simp only [Act.put, List.setIfInBounds_toArray, List.set_cons_zero, List.set_cons_succ]
    refine take 3 14 (v := .pointer (some ⟨w.heap.size + 1, 0, none⟩)) rfl rfl (by kernel_rfl) (by kernel_rfl) (by kernel_rfl) rfl (fun W hW => exec_fieldAddr rfl rfl (fa_value _ _ (by decide) W)) (by assumption) ?_
    simp only [Act.put, List.setIfInBounds_toArray, List.set_cons_zero, List.set_cons_succ]
    refine take 4 15 (v := .int .i64 k') rfl rfl (by kernel_rfl) (by kernel_rfl) (by kernel_rfl) rfl (fun W hW => exec_load rfl rfl (run_load1 (w := W) Tryz.underlying22 rfl (cellOf hW.2.1 rfl))) (by assumption) ?_
    simp only [Act.put, List.setIfInBounds_toArray, List.set_cons_zero, List.set_cons_succ]
    refine onlyCall 2 13 rfl rfl (by kernel_rfl) rfl (exec_call [.int .i64 k] rfl rfl Tryz.func60 (by kernel_rfl) (by kernel_rfl)) ?_
    refine (rankR_any _ HN.out.1.1 HN.out.1.2 _).mono ?_
    rintro e w5 ⟨rfl, hb5⟩
    have hU1 := hU.below hb5
    clear hb5
    refine ⟨_, rfl, .inr hU1, ?_⟩
    simp only [Act.put, List.setIfInBounds_toArray, List.set_cons_zero, List.set_cons_succ]
    refine onlyCall 5 16 rfl rfl (by kernel_rfl) rfl (exec_call [.int .i64 k'] rfl rfl Tryz.func60 (by kernel_rfl) (by kernel_rfl)) ?_
    refine (rankR_any _ HN.out.2.1 HN.out.2.2 _).mono ?_
    rintro e w5 ⟨rfl, hb5⟩
    have hU2 := hU1.below hb5
    clear hb5
    refine ⟨_, rfl, .inr hU2, ?_⟩
    simp only [Act.put, List.setIfInBounds_toArray, List.set_cons_zero, List.set_cons_succ]
    refine onlyCall 6 17 rfl rfl (by kernel_rfl) rfl (exec_call [.int .i64 (rankV k), .int .i64 (rankV k')] rfl rfl Tryz.func59 (by kernel_rfl) (by kernel_rfl)) ?_
    refine (ints_any _ _ _).mono ?_
    rintro e w' ⟨rfl, rfl⟩
    refine ⟨_, rfl, .inr (by assumption), ?_⟩
    simp only [Act.put, List.setIfInBounds_toArray, List.set_cons_zero, List.set_cons_succ]
    refine take 7 4 (v := .int .i64 (cmpI (rankV k) (rankV k'))) rfl rfl (by kernel_rfl) (by kernel_rfl) (by kernel_rfl) rfl (fun W hW => exec_assign rfl rfl) (by assumption) ?_
    simp only [Act.put, List.setIfInBounds_toArray, List.set_cons_zero, List.set_cons_succ]
    refine done (by kernel_rfl) ?_ _
    have HB := Lib.hid hU2.2.2
    clear hU hU0 hU1 hU2 c0 c1 c2 c3 c4 c5 q0 q1 q2 q3 q4 q5
    go_wp2
    go_ret
    exact ⟨ret_int HR.out, HB.out⟩
end Go.Proofs.YtnkaegdnjfpliaaGreatDoor

/-! The document's Alike, of one value twice. Printed by gen_aliked.py. -/
namespace Go.Proofs.YtnkaegdnjfpliaaGreatDoor
set_option linter.unusedSimpArgs false
set_option linter.unusedVariables false
open Go.RowKit

/-- Two boxes, and an element of each of the two lists. -/
structure AlU (w : World) (X Y : Array Value) (s1 : V) (g1 o1 g2 o2 : Nat) (c0 c1 c2 c3 c4 c5 d0 d1 d2 d3 d4 d5 : Value) (W : World) : Prop where
  two : TwoV w W X Y
  p : PairU w s1 s1 g1 o1 g2 o2 c0 c1 c2 c3 c4 c5 d0 d1 d2 d3 d4 d5 W
theorem AlU.keep {w W W' : World} {X Y : Array Value} {s1 : V} {g1 o1 g2 o2 : Nat} {c0 c1 c2 c3 c4 c5 d0 d1 d2 d3 d4 d5 : Value} (h : AlU w X Y s1 g1 o1 g2 o2 c0 c1 c2 c3 c4 c5 d0 d1 d2 d3 d4 d5 W) (b : Below W.heap.size W W') : AlU w X Y s1 g1 o1 g2 o2 c0 c1 c2 c3 c4 c5 d0 d1 d2 d3 d4 d5 W' := ⟨h.two.below b, h.p.keep b⟩
set_option maxRecDepth 100000 in
set_option maxHeartbeats 4000000 in
theorem alikeR_any : ∀ (v : V) (w : World) (x y : Array Value), VRd w v x → VRd w v y →
    Calls Tryz.prog 39 #[.agg x, .agg y] w fun e w' => e = .returned (.bool true) ∧ Below w.heap.size w w' := by
  refine V.ind fun k b n t ks l ih => ?_
  intro w x y hx hy
  obtain ⟨pk, ck, pl, cl, rfl, _, hk1, hl1⟩ := VRd_iff.1 hx
  obtain ⟨pk', ck', pl', cl', rfl, _, hk2, hl2⟩ := VRd_iff.1 hy
  have hT := TwoV.start w #[.int .i64 k, .bool b, .int .i64 n, .string (strB t), .slice pk ks.length ck, .slice pl l.length cl] #[.int .i64 k, .bool b, .int .i64 n, .string (strB t), .slice pk' ks.length ck', .slice pl' l.length cl']
  have z1 : (ks.length : Int) ≤ 140737488355328 := by have := hk1.1; have := hk1.2.1; omega
  have z2 : (l.length : Int) ≤ 140737488355328 := by have := hl1.1.2.1; omega
  have c0 := cellOf (o := 0) hT.1 rfl; have c1 := cellOf (o := 1) hT.1 rfl; have c2 := cellOf (o := 2) hT.1 rfl; have c3 := cellOf (o := 3) hT.1 rfl; have c4 := cellOf (o := 4) hT.1 rfl; have c5 := cellOf (o := 5) hT.1 rfl
  have q0 := cellOf (o := 0) hT.2.1 rfl; have q1 := cellOf (o := 1) hT.2.1 rfl; have q2 := cellOf (o := 2) hT.2.1 rfl; have q3 := cellOf (o := 3) hT.2.1 rfl; have q4 := cellOf (o := 4) hT.2.1 rfl; have q5 := cellOf (o := 5) hT.2.1 rfl
  have HT := Lib.hid hT
  have HK := Lib.hid (And.intro (And.intro hk1 hk2) (And.intro hl1 hl2))
  have HI := Lib.hid ih
  clear ih hx hy hT hk1 hk2 hl1 hl2
  go_enter Tryz.func39, Tryz.ntmps39
  go_wp2
  have HT0 := HT
  clear c0 c1 c2 c3 c4 c5 q0 q1 q2 q3 q4 q5
  go_loopw [5] (fun i wr => ∃ j : Nat, j ≤ ks.length ∧ i = .int .i64 (j : Int) ∧ Hid (TwoV w wr #[.int .i64 k, .bool b, .int .i64 n, .string (strB t), .slice pk ks.length ck, .slice pl l.length cl] #[.int .i64 k, .bool b, .int .i64 n, .string (strB t), .slice pk' ks.length ck', .slice pl' l.length cl'])) (fun i _ => ks.length - (intOf i).toNat)
  case atStart => exact ⟨0, Nat.zero_le _, rfl, HT0⟩
  case round =>
    clear HT HT0
    obtain ⟨j, hj, rfl, HT⟩ := hrel
    have hT1 := HT.out
    have c4 := cellOf (o := 4) hT1.1 rfl; have c5 := cellOf (o := 5) hT1.1 rfl
    have q4 := cellOf (o := 4) hT1.2.1 rfl; have q5 := cellOf (o := 5) hT1.2.1 rfl
    by_cases hlt : j < ks.length
    · have hlt1 : j + 1 ≤ ks.length := hlt
      have hbd : Below w.heap.size w wr.drew := below_trans hT1.2.2 (Below.refl _ _).drew
      obtain ⟨b1, o1, rfl, r1, y1⟩ := (HK.out.1.1.below hbd).get hlt
      obtain ⟨b2, o2, rfl, r2, y2⟩ := (HK.out.1.2.below hbd).get hlt
      have hlt2 := hlt
      generalize ks[j] = s1 at *
      have hU0 : KeyTwo w #[.int .i64 k, .bool b, .int .i64 n, .string (strB t), .slice (some ⟨b1, o1, none⟩) ks.length ck, .slice pl l.length cl] #[.int .i64 k, .bool b, .int .i64 n, .string (strB t), .slice (some ⟨b2, o2, none⟩) ks.length ck', .slice pl' l.length cl'] b1 (o1 + j) b2 (o2 + j) s1 s1 wr.drew := ⟨hT1.below (Below.refl _ _).drew, r1, r2⟩
      have hne : ∀ W, (binOp .neq 9 (.string (strB s1)) (.string (strB s1))).run Tryz.prog W = .ok (.bool false) W := fun W => by rw [run_neStr]; simp
      clear r1 r2 y1 y2 hbd hT1
      go_wp2
      refine plain_region_draws (fun W => KeyTwo w #[.int .i64 k, .bool b, .int .i64 n, .string (strB t), .slice (some ⟨b1, o1, none⟩) ks.length ck, .slice pl l.length cl] #[.int .i64 k, .bool b, .int .i64 n, .string (strB t), .slice (some ⟨b2, o2, none⟩) ks.length ck', .slice pl' l.length cl'] b1 (o1 + j) b2 (o2 + j) s1 s1 W) (by kernel_rfl) hU0 (fun hU => ?_)
      refine take 0 58 (v := .pointer (some ⟨w.heap.size, 4, none⟩)) rfl rfl (by kernel_rfl) (by kernel_rfl) (by kernel_rfl) rfl (fun W hW => exec_fieldAddr rfl rfl (fa_value _ _ (by decide) W)) (by assumption) ?_
      simp only [Act.put, List.setIfInBounds_toArray, List.set_cons_zero, List.set_cons_succ]
      refine take 1 59 (v := .slice (some ⟨b1, o1, none⟩) ks.length ck) rfl rfl (by kernel_rfl) (by kernel_rfl) (by kernel_rfl) rfl (fun W hW => exec_load rfl rfl (run_load1 (w := W) Tryz.underlying23 rfl (cellOf hW.two.1 rfl))) (by assumption) ?_
      simp only [Act.put, List.setIfInBounds_toArray, List.set_cons_zero, List.set_cons_succ]
      refine take 2 60 (v := .int .i64 (j : Int)) rfl rfl (by kernel_rfl) (by kernel_rfl) (by kernel_rfl) rfl (fun W hW => exec_move rfl rfl) (by assumption) ?_
      simp only [Act.put, List.setIfInBounds_toArray, List.set_cons_zero, List.set_cons_succ]
      refine take 3 61 (v := .pointer (some ⟨b1, o1 + j, none⟩)) rfl rfl (by kernel_rfl) (by kernel_rfl) (by kernel_rfl) rfl (fun W hW => exec_indexAddr rfl rfl rfl (ia_keys _ _ _ _ _ hlt W)) (by assumption) ?_
      simp only [Act.put, List.setIfInBounds_toArray, List.set_cons_zero, List.set_cons_succ]
      refine take 4 62 (v := .string (strB s1)) rfl rfl (by kernel_rfl) (by kernel_rfl) (by kernel_rfl) rfl (fun W hW => exec_load rfl rfl (run_load1 (w := W) Tryz.underlying9 rfl hW.one)) (by assumption) ?_
      simp only [Act.put, List.setIfInBounds_toArray, List.set_cons_zero, List.set_cons_succ]
      refine take 5 63 (v := .pointer (some ⟨w.heap.size + 1, 4, none⟩)) rfl rfl (by kernel_rfl) (by kernel_rfl) (by kernel_rfl) rfl (fun W hW => exec_fieldAddr rfl rfl (fa_value _ _ (by decide) W)) (by assumption) ?_
      simp only [Act.put, List.setIfInBounds_toArray, List.set_cons_zero, List.set_cons_succ]
      refine take 6 64 (v := .slice (some ⟨b2, o2, none⟩) ks.length ck') rfl rfl (by kernel_rfl) (by kernel_rfl) (by kernel_rfl) rfl (fun W hW => exec_load rfl rfl (run_load1 (w := W) Tryz.underlying23 rfl (cellOf hW.two.2.1 rfl))) (by assumption) ?_
      simp only [Act.put, List.setIfInBounds_toArray, List.set_cons_zero, List.set_cons_succ]
      refine take 7 65 (v := .int .i64 (j : Int)) rfl rfl (by kernel_rfl) (by kernel_rfl) (by kernel_rfl) rfl (fun W hW => exec_move rfl rfl) (by assumption) ?_
      simp only [Act.put, List.setIfInBounds_toArray, List.set_cons_zero, List.set_cons_succ]
      refine take 8 66 (v := .pointer (some ⟨b2, o2 + j, none⟩)) rfl rfl (by kernel_rfl) (by kernel_rfl) (by kernel_rfl) rfl (fun W hW => exec_indexAddr rfl rfl rfl (ia_keys _ _ _ _ _ hlt2 W)) (by assumption) ?_
      simp only [Act.put, List.setIfInBounds_toArray, List.set_cons_zero, List.set_cons_succ]
      refine take 9 67 (v := .string (strB s1)) rfl rfl (by kernel_rfl) (by kernel_rfl) (by kernel_rfl) rfl (fun W hW => exec_load rfl rfl (run_load1 (w := W) Tryz.underlying9 rfl hW.sec)) (by assumption) ?_
      simp only [Act.put, List.setIfInBounds_toArray, List.set_cons_zero, List.set_cons_succ]
      refine take 10 68 (v := .bool false) rfl rfl (by kernel_rfl) (by kernel_rfl) (by kernel_rfl) rfl (fun W hW => exec_bins rfl rfl rfl (hne W)) (by assumption) ?_
      simp only [Act.put, List.setIfInBounds_toArray, List.set_cons_zero, List.set_cons_succ]
      refine done (by kernel_rfl) ?_ _
      have HT0 := Lib.hid hU.two
      have c4 := cellOf (o := 4) hU.two.1 rfl
      have q4 := cellOf (o := 4) hU.two.2.1 rfl
      clear hU hU0 hne
      go_wp2
      go_roundw
      case rel => exact ⟨j + 1, by omega, by go_num, HT0⟩
      case measure => simp [intOf]; omega
    · obtain rfl : j = ks.length := by omega
      have HT0 := HT
      clear hT1
      go_wp2
      go_loopw [6] (fun i wr => ∃ j : Nat, j ≤ l.length ∧ i = .int .i64 (j : Int) ∧ Hid (TwoV w wr #[.int .i64 k, .bool b, .int .i64 n, .string (strB t), .slice pk ks.length ck, .slice pl l.length cl] #[.int .i64 k, .bool b, .int .i64 n, .string (strB t), .slice pk' ks.length ck', .slice pl' l.length cl'])) (fun i _ => l.length - (intOf i).toNat)
      case atStart => exact ⟨0, Nat.zero_le _, rfl, HT0⟩
      case round =>
        clear HT HT0 c4 c5 q4 q5
        obtain ⟨j, hj, rfl, HT⟩ := hrel
        have hT1 := HT.out
        have c4 := cellOf (o := 4) hT1.1 rfl; have c5 := cellOf (o := 5) hT1.1 rfl
        have q4 := cellOf (o := 4) hT1.2.1 rfl; have q5 := cellOf (o := 5) hT1.2.1 rfl
        by_cases hlt : j < l.length
        · have hlt1 : j + 1 ≤ l.length := hlt
          have hbd : Below w.heap.size w wr.drew := below_trans hT1.2.2 (Below.refl _ _).drew
          obtain ⟨g1, o1, pk1, ck1, pl1, cl1, rfl, ⟨a0, a1, a2, a3, a4, a5⟩, hv1⟩ := (HK.out.2.1.below hbd).at hlt
          obtain ⟨g2, o2, pk2, ck2, pl2, cl2, rfl, ⟨r0, r1, r2, r3, r4, r5⟩, hv2⟩ := (HK.out.2.2.below hbd).at hlt
          have hlt2 := hlt
          have HC := Lib.hid (HI.out l[j] (List.getElem_mem hlt))
          generalize l[j] = s1 at *
          have hU0 : AlU w #[.int .i64 k, .bool b, .int .i64 n, .string (strB t), .slice pk ks.length ck, .slice (some ⟨g1, o1, none⟩) l.length cl] #[.int .i64 k, .bool b, .int .i64 n, .string (strB t), .slice pk' ks.length ck', .slice (some ⟨g2, o2, none⟩) l.length cl'] s1 g1 (o1 + j * 6) g2 (o2 + j * 6) (.int .i64 s1.kind) (.bool s1.b) (.int .i64 s1.n) (.string (strB s1.text)) (.slice pk1 s1.keys.length ck1) (.slice pl1 s1.list.length cl1) (.int .i64 s1.kind) (.bool s1.b) (.int .i64 s1.n) (.string (strB s1.text)) (.slice pk2 s1.keys.length ck2) (.slice pl2 s1.list.length cl2) wr.drew := ⟨hT1.below (Below.refl _ _).drew, ⟨hbd, a0, a1, a2, a3, a4, a5, r0, r1, r2, r3, r4, r5, hv1, hv2⟩⟩
          clear a0 a1 a2 a3 a4 a5 r0 r1 r2 r3 r4 r5 hv1 hv2 hbd hT1
          go_wp2
          refine plain_region_draws (fun W => AlU w #[.int .i64 k, .bool b, .int .i64 n, .string (strB t), .slice pk ks.length ck, .slice (some ⟨g1, o1, none⟩) l.length cl] #[.int .i64 k, .bool b, .int .i64 n, .string (strB t), .slice pk' ks.length ck', .slice (some ⟨g2, o2, none⟩) l.length cl'] s1 g1 (o1 + j * 6) g2 (o2 + j * 6) (.int .i64 s1.kind) (.bool s1.b) (.int .i64 s1.n) (.string (strB s1.text)) (.slice pk1 s1.keys.length ck1) (.slice pl1 s1.list.length cl1) (.int .i64 s1.kind) (.bool s1.b) (.int .i64 s1.n) (.string (strB s1.text)) (.slice pk2 s1.keys.length ck2) (.slice pl2 s1.list.length cl2) W) (by kernel_rfl) hU0 (fun hU => ?_)
          refine take 0 76 (v := .pointer (some ⟨w.heap.size, 5, none⟩)) rfl rfl (by kernel_rfl) (by kernel_rfl) (by kernel_rfl) rfl (fun W hW => exec_fieldAddr rfl rfl (fa_value _ _ (by decide) W)) (by assumption) ?_
          simp only [Act.put, List.setIfInBounds_toArray, List.set_cons_zero, List.set_cons_succ]
          refine take 1 77 (v := .slice (some ⟨g1, o1, none⟩) l.length cl) rfl rfl (by kernel_rfl) (by kernel_rfl) (by kernel_rfl) rfl (fun W hW => exec_load rfl rfl (run_load1 (w := W) Tryz.underlying24 rfl (cellOf hW.two.1 rfl))) (by assumption) ?_
          simp only [Act.put, List.setIfInBounds_toArray, List.set_cons_zero, List.set_cons_succ]
          refine take 2 78 (v := .int .i64 (j : Int)) rfl rfl (by kernel_rfl) (by kernel_rfl) (by kernel_rfl) rfl (fun W hW => exec_move rfl rfl) (by assumption) ?_
          simp only [Act.put, List.setIfInBounds_toArray, List.set_cons_zero, List.set_cons_succ]
          refine take 3 79 (v := .pointer (some ⟨g1, o1 + j * 6, none⟩)) rfl rfl (by kernel_rfl) (by kernel_rfl) (by kernel_rfl) rfl (fun W hW => exec_indexAddr rfl rfl rfl (ia_vals _ _ _ _ _ hlt W)) (by assumption) ?_
          simp only [Act.put, List.setIfInBounds_toArray, List.set_cons_zero, List.set_cons_succ]
          refine take 4 80 (v := .agg #[.int .i64 s1.kind, .bool s1.b, .int .i64 s1.n, .string (strB s1.text), .slice pk1 s1.keys.length ck1, .slice pl1 s1.list.length cl1]) rfl rfl (by kernel_rfl) (by kernel_rfl) (by kernel_rfl) rfl (fun W hW => exec_load rfl rfl (get_six hW.p.h0 hW.p.h1 hW.p.h2 hW.p.h3 hW.p.h4 hW.p.h5)) (by assumption) ?_
          simp only [Act.put, List.setIfInBounds_toArray, List.set_cons_zero, List.set_cons_succ]
          refine take 5 81 (v := .pointer (some ⟨w.heap.size + 1, 5, none⟩)) rfl rfl (by kernel_rfl) (by kernel_rfl) (by kernel_rfl) rfl (fun W hW => exec_fieldAddr rfl rfl (fa_value _ _ (by decide) W)) (by assumption) ?_
          simp only [Act.put, List.setIfInBounds_toArray, List.set_cons_zero, List.set_cons_succ]
          refine take 6 82 (v := .slice (some ⟨g2, o2, none⟩) l.length cl') rfl rfl (by kernel_rfl) (by kernel_rfl) (by kernel_rfl) rfl (fun W hW => exec_load rfl rfl (run_load1 (w := W) Tryz.underlying24 rfl (cellOf hW.two.2.1 rfl))) (by assumption) ?_
          simp only [Act.put, List.setIfInBounds_toArray, List.set_cons_zero, List.set_cons_succ]
          refine take 7 83 (v := .int .i64 (j : Int)) rfl rfl (by kernel_rfl) (by kernel_rfl) (by kernel_rfl) rfl (fun W hW => exec_move rfl rfl) (by assumption) ?_
          simp only [Act.put, List.setIfInBounds_toArray, List.set_cons_zero, List.set_cons_succ]
          refine take 8 84 (v := .pointer (some ⟨g2, o2 + j * 6, none⟩)) rfl rfl (by kernel_rfl) (by kernel_rfl) (by kernel_rfl) rfl (fun W hW => exec_indexAddr rfl rfl rfl (ia_vals _ _ _ _ _ hlt2 W)) (by assumption) ?_
          simp only [Act.put, List.setIfInBounds_toArray, List.set_cons_zero, List.set_cons_succ]
          refine take 9 85 (v := .agg #[.int .i64 s1.kind, .bool s1.b, .int .i64 s1.n, .string (strB s1.text), .slice pk2 s1.keys.length ck2, .slice pl2 s1.list.length cl2]) rfl rfl (by kernel_rfl) (by kernel_rfl) (by kernel_rfl) rfl (fun W hW => exec_load rfl rfl (get_six hW.p.q0 hW.p.q1 hW.p.q2 hW.p.q3 hW.p.q4 hW.p.q5)) (by assumption) ?_
          simp only [Act.put, List.setIfInBounds_toArray, List.set_cons_zero, List.set_cons_succ]
          refine onlyCall 10 86 rfl rfl (by kernel_rfl) rfl (exec_call [.agg #[.int .i64 s1.kind, .bool s1.b, .int .i64 s1.n, .string (strB s1.text), .slice pk1 s1.keys.length ck1, .slice pl1 s1.list.length cl1], .agg #[.int .i64 s1.kind, .bool s1.b, .int .i64 s1.n, .string (strB s1.text), .slice pk2 s1.keys.length ck2, .slice pl2 s1.list.length cl2]] rfl rfl Tryz.func39 (by kernel_rfl) (by kernel_rfl)) ?_
          refine (HC.out _ _ _ hU.p.r1 hU.p.r2).mono ?_
          rintro e w5 ⟨rfl, hb5⟩
          have hU2 := hU.keep hb5
          clear hb5
          refine ⟨_, rfl, .inr hU2, ?_⟩
          simp only [Act.put, List.setIfInBounds_toArray, List.set_cons_zero, List.set_cons_succ]
          refine take 11 87 (v := .bool false) rfl rfl (by kernel_rfl) (by kernel_rfl) (by kernel_rfl) rfl (fun W hW => exec_unot (b := true) rfl rfl) (by assumption) ?_
          simp only [Act.put, List.setIfInBounds_toArray, List.set_cons_zero, List.set_cons_succ]
          refine done (by kernel_rfl) ?_ _
          have HT0 := Lib.hid hU2.two
          have c5 := cellOf (o := 5) hU2.two.1 rfl
          have q5 := cellOf (o := 5) hU2.two.2.1 rfl
          clear hU hU0 hU2 HC
          go_wp2
          go_roundw
          case rel => exact ⟨j + 1, by omega, by go_num, HT0⟩
          case measure => simp [intOf]; omega
        · obtain rfl : j = l.length := by omega
          have HF := Lib.hid hT1.2.2
          clear hT1
          go_wp2
          go_ret
          exact ⟨rfl, HF.out⟩
end Go.Proofs.YtnkaegdnjfpliaaGreatDoor

/-! The document's UTF8 and what it calls. -/
namespace Go.Proofs.YtnkaegdnjfpliaaGreatDoor
set_option linter.unusedSimpArgs false
set_option linter.unusedVariables false
open Go.RowKit

set_option maxRecDepth 100000 in
theorem more_any (l : List UInt8) (i : Nat) (w : World) (hi : i ≤ 140737488355400) (hl : l.length ≤ 140737488355328) : Calls Tryz.prog 104 #[.string (strB l), .int .i64 (i : Int)] w fun e w' => e = .returned (.bool (moreB l i)) ∧ w = w' := by
  have hsz : (strB l).size = l.length := rfl
  have z1 : (l.length : Int) ≤ 140737488355328 := by omega
  by_cases h : i < l.length
  · have hm : moreB l i = (decide (128 ≤ l[i].toNat) && decide (l[i].toNat ≤ 191)) := by unfold moreB; rw [List.getElem?_eq_getElem h]
    rw [hm]
    go_enter Tryz.func104, Tryz.ntmps104
    go_wp2
    · rename_i hx
      have hx' : 128 ≤ (l[i].toNat : Int) := hx
      go_ret
      refine ⟨ret_bool ?_, rfl⟩
      rw [show decide (128 ≤ l[i].toNat) = true by simp; omega, Bool.true_and]
      show decide ((l[i].toNat : Int) ≤ 191) = decide (l[i].toNat ≤ 191)
      rw [Bool.eq_iff_iff, decide_eq_true_iff, decide_eq_true_iff]
      omega
    · rename_i hx
      have hx' : (l[i].toNat : Int) < 128 := hx
      go_ret
      exact ⟨ret_bool (by rw [show decide (128 ≤ l[i].toNat) = false by simp; omega]; rfl), rfl⟩
  · have hm : moreB l i = false := by unfold moreB; rw [List.getElem?_eq_none (by omega)]
    rw [hm]
    go_enter Tryz.func104, Tryz.ntmps104
    go_wp2
    go_ret
    exact ⟨rfl, rfl⟩
theorem more_int (l : List UInt8) (n : Int) (w : World) (h0 : 0 ≤ n) (hi : n ≤ 140737488355400) (hl : l.length ≤ 140737488355328) : Calls Tryz.prog 104 #[.string (strB l), .int .i64 n] w fun e w' => e = .returned (.bool (moreB l n.toNat)) ∧ w = w' := by
  obtain ⟨i, rfl⟩ : ∃ i : Nat, n = (i : Int) := ⟨n.toNat, by omega⟩
  exact more_any l i w (by omega) hl
set_option maxRecDepth 100000 in
set_option maxHeartbeats 8000000 in
theorem runeAt_any (l : List UInt8) (i : Nat) (w : World) (hi : i < l.length) (hl : l.length ≤ 140737488355328) : Calls Tryz.prog 71 #[.string (strB l), .int .i64 (i : Int)] w fun e w' => e = .returned (.int .i64 (runeL l i : Int)) ∧ w = w' := by
  have hsz : (strB l).size = l.length := rfl
  have z1 : (l.length : Int) ≤ 140737488355328 := by omega
  have t1 : ((i : Int) + 1).toNat = i + 1 := by omega
  have t2 : ((i : Int) + 2).toNat = i + 2 := by omega
  have t3 : ((i : Int) + 3).toNat = i + 3 := by omega
  have hb : byteN l i = ((strB l)[i]'hi).toNat := by unfold byteN; rw [List.getElem?_eq_getElem hi]; rfl
  cases hm1 : moreB l (i + 1) with
  | false =>
    go_enter Tryz.func71, Tryz.ntmps71
    go_wp2_with (go_at_call 104
                 (
                   refine (more_int _ _ _ (by omega) (by omega) hl).mono ?_
                   rintro e w' ⟨rfl, rfl⟩
                   simp only [t1, t2, t3, hm1]))
    all_goals
      go_ret
      refine ⟨ret_int ?_, rfl⟩
      unfold runeL
      rw [hm1, hb]
      generalize ((strB l)[i]'hi).toNat = c at *
      (repeat' split) <;> first | rfl | omega | (simp only [Bool.and_eq_true, decide_eq_true_eq, Bool.false_eq_true, and_false, false_and, not_false_eq_true, not_true_eq_false] at * <;> omega)
  | true =>
    have hi1 : i + 1 < l.length := by
      unfold moreB at hm1
      split at hm1
      · rename_i x hx
        exact (List.getElem?_eq_some_iff.1 hx).1
      · cases hm1
    have hi1' : (i : Int) + 1 < l.length := by omega
    have hb1 : byteN l (i + 1) = ((strB l)[i + 1]'hi1).toNat := by unfold byteN; rw [List.getElem?_eq_getElem hi1]; rfl
    cases hm2 : moreB l (i + 2) <;> cases hm3 : moreB l (i + 3)
    all_goals
      go_enter Tryz.func71, Tryz.ntmps71
      go_wp2_with (go_at_call 104
                   (
                     refine (more_int _ _ _ (by omega) (by omega) hl).mono ?_
                     rintro e w' ⟨rfl, rfl⟩
                     simp only [t1, t2, t3, hm1, hm2, hm3]))
      all_goals
        go_ret
        refine ⟨ret_int ?_, rfl⟩
        unfold runeL
        rw [hm1, hm2, hb, hb1]
        try rw [hm3]
        generalize ((strB l)[i]'hi).toNat = c at *
        generalize ((strB l)[i + 1]'hi1).toNat = d at *
        (repeat' split) <;> first | rfl | omega | (simp only [Bool.and_eq_true, Bool.or_eq_true, beq_iff_eq, decide_eq_true_eq, Bool.false_eq_true, and_false, false_and, and_true, true_and, not_false_eq_true, not_true_eq_false] at * <;> omega)
end Go.Proofs.YtnkaegdnjfpliaaGreatDoor

/-! The document's UTF8 and bare. -/
namespace Go.Proofs.YtnkaegdnjfpliaaGreatDoor
set_option linter.unusedSimpArgs false
set_option linter.unusedVariables false
open Go.RowKit

theorem runeL_le (l : List UInt8) (i : Nat) : runeL l i ≤ 4 := by
  unfold runeL
  (repeat' split) <;> omega
theorem valid_step (l : List UInt8) (i : Nat) (h : i < l.length) : Lib.validD (l.drop i) = if runeL l i = 0 then false else Lib.validD (l.drop (i + runeL l i)) := by
  have h1 := utfFrom_valid l (l.length - i) i (Nat.le_refl _)
  obtain ⟨f, hf⟩ : ∃ f, l.length - i = f + 1 := ⟨l.length - i - 1, by omega⟩
  rw [hf] at h1
  rw [← h1]
  unfold utfFrom
  have h' : ¬ l.length ≤ i := by omega
  by_cases h0 : runeL l i = 0
  · simp [h', h0]
  · have h2 := utfFrom_valid l f (i + runeL l i) (by omega)
    simp [h', h0, h2]
theorem valid_end (l : List UInt8) (i : Nat) (h : l.length ≤ i) : Lib.validD (l.drop i) = true := by
  rw [List.drop_eq_nil_of_le h]; rfl
set_option maxRecDepth 100000 in
set_option maxHeartbeats 2000000 in
theorem utfR_any (l : List UInt8) (w : World) (hl : l.length ≤ 140737488355328) : Calls Tryz.prog 30 #[.string (strB l)] w fun e w' => e = .returned (.bool (Lib.validD l)) ∧ w = w' := by
  have hsz : (strB l).size = l.length := rfl
  have z1 : (l.length : Int) ≤ 140737488355328 := by omega
  have HL := Lib.hid hl
  go_enter Tryz.func30, Tryz.ntmps30
  go_wp2
  go_loopw [3] (fun i W => ∃ j : Nat, j ≤ l.length + 4 ∧ i = .int .i64 (j : Int) ∧ Hid (Lib.validD l = Lib.validD (l.drop j)) ∧ w = W) (fun i _ => l.length - (intOf i).toNat)
  case atStart => exact ⟨0, by omega, rfl, Lib.hid rfl, rfl⟩
  case round =>
    obtain ⟨j, hj, rfl, HQ, rfl⟩ := hrel
    have zj : (j : Int) ≤ 140737488355332 := by omega
    by_cases hlt : j < l.length
    · have hst := valid_step l j hlt
      have hrl := runeL_le l j
      have HC := Lib.hid (runeAt_any l j w hlt HL.out)
      by_cases h0 : runeL l j = 0
      · rw [if_pos h0] at hst
        rw [h0] at HC
        have HS := Lib.hid hst
        clear hst h0 hrl
        go_wp2_with (go_at_call 71; refine HC.out.mono ?_; rintro e w' ⟨rfl, rfl⟩)
        go_ret
        exact ⟨ret_bool (by rw [HQ.out, HS.out]), rfl⟩
      · rw [if_neg h0] at hst
        generalize runeL l j = r at *
        have HS := Lib.hid (HQ.out.trans hst)
        have hr0 : ¬ (r : Int) = 0 := by omega
        have hr1 : ((r : Int) == 0) = false := by rw [beq_eq_false_iff_ne]; omega
        have zr : (r : Int) ≤ 4 := by omega
        clear hst HQ
        go_wp2_with (go_at_call 71; refine HC.out.mono ?_; rintro e w' ⟨rfl, rfl⟩)
        go_roundw
        case rel => exact ⟨j + r, by omega, by go_num, HS, trivial⟩
        case measure => simp [intOf]; omega
    · have he := valid_end l j (by omega)
      go_wp2
      go_ret
      exact ⟨ret_bool (by rw [HQ.out, he]), rfl⟩
end Go.Proofs.YtnkaegdnjfpliaaGreatDoor

/-! The document's bare. -/
namespace Go.Proofs.YtnkaegdnjfpliaaGreatDoor
set_option linter.unusedSimpArgs false
set_option linter.unusedVariables false
open Go.RowKit

theorem isE {α : Type} (l : List α) : l.isEmpty = ((l.length : Int) == 0) := by cases l <;> simp <;> omega
set_option maxRecDepth 100000 in
set_option maxHeartbeats 8000000 in
theorem bareR_any {v : V} {w : World} {x : Array Value} (hx : VRd w v x) : Calls Tryz.prog 101 #[.agg x] w fun e w' => e = .returned (.bool (bareV v)) ∧ Below w.heap.size w w' := by
  have hT := OneB.start w x
  cases v with
  | mk k b n t ks l =>
    obtain ⟨pk, ck, pl, cl, rfl, htx, hk1, hl1⟩ := VRd_iff.1 hx
    have zt : (strB t).size = t.length := rfl
    have z1 : (ks.length : Int) ≤ 140737488355328 := by have := hk1.1; have := hk1.2.1; omega
    have z2 : (l.length : Int) ≤ 140737488355328 := by have := hl1.1.2.1; omega
    have hb : bareV (.mk k b n t ks l) = ((k == 1 || !b) && (k == 2 || k == 6 || k == 7 || n == 0) && (k == 3 || t.isEmpty) && (k == 5 || ks.isEmpty) && (k == 4 || k == 5 || l.isEmpty)) := rfl
    rw [hb]
    have HT := Lib.hid hT
    clear hx hk1 hl1 hT hb htx
    go_enter Tryz.func101, Tryz.ntmps101
    go_wp2
    all_goals
      go_ret
      refine ⟨ret_bool ?_, below_new _⟩
      try rw [isE ks]
      try rw [isE l]
      simp_all [strB_toList]
end Go.Proofs.YtnkaegdnjfpliaaGreatDoor

/-! The document's May. Printed by gen_may.py. -/
namespace Go.Proofs.YtnkaegdnjfpliaaGreatDoor
set_option linter.unusedSimpArgs false
set_option linter.unusedVariables false
open Go.RowKit

/-- What is asked ahead of the loops. -/
def headV (u : List UInt8 → Bool) (v : V) : Bool :=
  decide (0 ≤ v.kind) && decide (v.kind ≤ 7) && bareV v && (!(v.kind == 6 || v.kind == 7) || decide (0 ≤ v.n)) && u v.text && (!(v.kind == 5) || v.keys.length == v.list.length)
theorem oneV_head (u : List UInt8 → Bool) (v : V) : oneV u v = (headV u v && v.keys.all u && risesB v.keys) := rfl
theorem mayV_head (u : List UInt8 → Bool) (k : Int) (b : Bool) (n : Int) (t : List UInt8) (ks : List (List UInt8)) (l : List V) : mayV u (.mk k b n t ks l) = (headV u (.mk k b n t ks l) && ks.all u && risesB ks && mayVs u l) := by
  rw [mayV, oneV_head]; rfl
theorem mayVs_all (u : List UInt8 → Bool) (l : List V) : mayVs u l = l.all (mayV u) := by
  induction l with
  | nil => rfl
  | cons a r ih => rw [mayVs, ih]; rfl
/-- Keys that may be, so far; values that may be, so far. -/
def KeysOk (l : List (List UInt8)) : Prop := l.all Lib.validD = true ∧ risesB l = true
structure MayNo (l : List V) : Prop where
  no : l.all (mayV Lib.validD) = false
def ValsOk (l : List V) : Prop := l.all (mayV Lib.validD) = true
/-- What the regions over keys see. -/
structure KeyU (w : World) (X : Array Value) (bk o1 o2 : Nat) (s1 s2 : List UInt8) (W : World) : Prop where
  box : OneB w W X
  one : W.cell? ⟨bk, o1, none⟩ = some (.string (strB s1))
  two : W.cell? ⟨bk, o2, none⟩ = some (.string (strB s2))
theorem geq_str (s1 s2 : List UInt8) (W : World) : (binOp .geq 9 (.string (strB s1)) (.string (strB s2))).run Tryz.prog W = .ok (.bool (!(ltB s1 s2))) W := by
  simp [go_sem, strB_toList, less_eq]
set_option maxRecDepth 100000 in
set_option maxHeartbeats 16000000 in
theorem mayR_any : ∀ (v : V) (w : World) (x : Array Value), VRd w v x → Calls Tryz.prog 68 #[.agg x] w fun e w' => e = .returned (.bool (mayV Lib.validD v)) ∧ Below w.heap.size w w' := by
  refine V.ind fun k b n t ks l ih => ?_
  intro w x hx
  have HBR := Lib.hid (fun (W : World) (hb : Below w.heap.size w W) => bareR_any (hx.below hb))
  rw [mayV_head, mayVs_all]
  have hT := OneB.start w x
  obtain ⟨pk, ck, pl, cl, rfl, htx, hk1, hl1⟩ := VRd_iff.1 hx
  have z1 : (ks.length : Int) ≤ 140737488355328 := by have := hk1.1; have := hk1.2.1; omega
  have z2 : (l.length : Int) ≤ 140737488355328 := by have := hl1.1.2.1; omega
  have hh : headV Lib.validD (.mk k b n t ks l) = (decide (0 ≤ k) && decide (k ≤ 7) && bareV (.mk k b n t ks l) && (!(k == 6 || k == 7) || decide (0 ≤ n)) && Lib.validD t && (!(k == 5) || ks.length == l.length)) := rfl
  have HU := Lib.hid (fun (W : World) => utfR_any t W htx)
  have HK := Lib.hid (And.intro hk1 (And.intro hl1 ih))
  have HT := Lib.hid hT
  have px0 := cellOf (o := 0) hT.1 rfl; have px1 := cellOf (o := 1) hT.1 rfl; have px2 := cellOf (o := 2) hT.1 rfl; have px3 := cellOf (o := 3) hT.1 rfl; have px4 := cellOf (o := 4) hT.1 rfl; have px5 := cellOf (o := 5) hT.1 rfl
  clear ih hx hk1 hl1 hT htx px0 px1 px2 px3 px4 px5
  generalize bareV (.mk k b n t ks l) = B at *
  generalize Lib.validD t = U at *
  cases hc : headV Lib.validD (.mk k b n t ks l) with
  | false =>
    rw [hc] at hh
    have hh2 : B = true → U = true → (k < 0 ∨ 7 < k ∨ ((k = 6 ∨ k = 7) ∧ n < 0) ∨ (k = 5 ∧ (ks.length : Int) ≠ l.length)) := by
      rintro rfl rfl
      by_cases h : k < 0 ∨ 7 < k ∨ ((k = 6 ∨ k = 7) ∧ n < 0) ∨ (k = 5 ∧ (ks.length : Int) ≠ l.length)
      · exact h
      · have : (decide (0 ≤ k) && decide (k ≤ 7) && true && (!(k == 6 || k == 7) || decide (0 ≤ n)) && true && (!(k == 5) || ks.length == l.length)) = true := by
          simp only [Bool.and_eq_true, decide_eq_true_eq, Bool.or_eq_true, Bool.not_eq_true', Bool.or_eq_false_iff, beq_eq_false_iff_ne, beq_iff_eq]
          exact ⟨⟨⟨⟨⟨by omega, by omega⟩, trivial⟩, by omega⟩, trivial⟩, by omega⟩
        rw [this] at hh
        cases hh
    have HH := Lib.hid hh2
    clear hh hc hh2
    by_cases hlen : (ks.length : Int) = l.length
    all_goals cases B
    all_goals cases U
    all_goals
      go_enter Tryz.func68, Tryz.ntmps68
      go_wp2_with (first
        | (go_at_call 101
           (
             refine (HBR.out _ HT.out.2).mono ?_
             rintro e w1 ⟨rfl, hb⟩
             have hT1 := HT.out.below hb
             have px0 := cellOf (o := 0) hT1.1 rfl; have px1 := cellOf (o := 1) hT1.1 rfl; have px2 := cellOf (o := 2) hT1.1 rfl; have px3 := cellOf (o := 3) hT1.1 rfl; have px4 := cellOf (o := 4) hT1.1 rfl; have px5 := cellOf (o := 5) hT1.1 rfl
             have HT := Lib.hid hT1
             clear hT1 hb))
        | (go_at_call 30; refine (HU.out _).mono ?_; rintro e w' ⟨rfl, rfl⟩))
      all_goals first
        | (go_ret; exact ⟨rfl, HT.out.2⟩)
        | (exfalso; have h := HH.out (by trivial) (by trivial); omega)
  | true =>
    rw [hc] at hh
    have h1 := hh.symm
    simp only [Bool.and_eq_true, decide_eq_true_eq, Bool.or_eq_true, Bool.not_eq_true', Bool.or_eq_false_iff, beq_eq_false_iff_ne, beq_iff_eq] at h1
    obtain ⟨⟨⟨⟨⟨k0, k7⟩, rfl⟩, h67⟩, rfl⟩, h5⟩ := h1
    clear hh hc
    have hcs : (k = 5 ∧ (ks.length : Int) = l.length) ∨ (k = 6 ∧ 0 ≤ n) ∨ (k = 7 ∧ 0 ≤ n) ∨ (0 ≤ k ∧ k ≤ 4) := by omega
    have g0 : ¬ k < 0 := by omega
    have g7 : ¬ 7 < k := by omega
    have hfacts : ((k == 5) = true ∧ (k == 6) = false ∧ (k == 7) = false ∧ ((ks.length : Int) != (l.length : Int)) = false) ∨ ((k == 5) = false ∧ (k == 6) = true ∧ (k == 7) = false ∧ ¬ n < 0) ∨ ((k == 5) = false ∧ (k == 6) = false ∧ (k == 7) = true ∧ ¬ n < 0) ∨ ((k == 5) = false ∧ (k == 6) = false ∧ (k == 7) = false ∧ (0 : Int) ≤ 0) := by
      simp only [beq_iff_eq, beq_eq_false_iff_ne, bne_eq_false_iff_eq]
      omega
    clear h67 h5 k0 k7 hcs
    rcases hfacts with ⟨d5, d6, d7, d8⟩ | ⟨d5, d6, d7, d8⟩ | ⟨d5, d6, d7, d8⟩ | ⟨d5, d6, d7, d8⟩
    all_goals
      go_enter Tryz.func68, Tryz.ntmps68
      go_wp2_with (first
        | (go_at_call 101
           (
             refine (HBR.out _ HT.out.2).mono ?_
             rintro e w1 ⟨rfl, hb⟩
             have hT1 := HT.out.below hb
             have px0 := cellOf (o := 0) hT1.1 rfl; have px1 := cellOf (o := 1) hT1.1 rfl; have px2 := cellOf (o := 2) hT1.1 rfl; have px3 := cellOf (o := 3) hT1.1 rfl; have px4 := cellOf (o := 4) hT1.1 rfl; have px5 := cellOf (o := 5) hT1.1 rfl
             have HT := Lib.hid hT1
             clear hT1 hb))
        | (go_at_call 30; refine (HU.out _).mono ?_; rintro e w' ⟨rfl, rfl⟩))
      clear d5 d6 d7 d8 g0 g7 px0 px1 px2 px3 px4 px5
      have HT0 := HT
      go_loopw [3] (fun i W => ∃ j : Nat, j ≤ ks.length ∧ i = .int .i64 (j : Int) ∧ Hid (KeysOk (ks.take j)) ∧ Hid (OneB w W #[.int .i64 k, .bool b, .int .i64 n, .string (strB t), .slice pk ks.length ck, .slice pl l.length cl])) (fun i _ => ks.length - (intOf i).toNat)
      case atStart => exact ⟨0, Nat.zero_le _, rfl, Lib.hid ⟨rfl, rfl⟩, HT0⟩
      case round =>
        clear HT HT0
        obtain ⟨j, hj, rfl, HQ, HT⟩ := hrel
        have hT1 := HT.out
        have px0 := cellOf (o := 0) hT1.1 rfl; have px1 := cellOf (o := 1) hT1.1 rfl; have px2 := cellOf (o := 2) hT1.1 rfl; have px3 := cellOf (o := 3) hT1.1 rfl; have px4 := cellOf (o := 4) hT1.1 rfl; have px5 := cellOf (o := 5) hT1.1 rfl
        by_cases hlt : j < ks.length
        · have hlt1 : j + 1 ≤ ks.length := hlt
          obtain ⟨bk, ok, rfl, q0, ql⟩ := (HK.out.1.below hT1.2).get hlt
          have hcu := fun (W : World) => utfR_any ks[j] W ql
          have htk : ks.take (j + 1) = ks.take j ++ [ks[j]] := List.take_succ_eq_append_getElem hlt
          have hall : (ks.take (j + 1)).all Lib.validD = Lib.validD ks[j] := by rw [htk, List.all_append, HQ.out.1]; simp
          have hno : Lib.validD ks[j] = false → ks.all Lib.validD = false := fun h => List.all_eq_false.2 ⟨ks[j], List.getElem_mem hlt, by rw [h]; simp⟩
          clear hT1 ql
          go_wp2
          cases hv : Lib.validD ks[j] with
          | false =>
            simp only [hv] at hcu
            have hU : KeyU w #[.int .i64 k, .bool b, .int .i64 n, .string (strB t), .slice (some ⟨bk, ok, none⟩) ks.length ck, .slice pl l.length cl] bk (ok + j) (ok + j) ks[j] ks[j] wr.drew := ⟨HT.out.below (Below.refl _ _).drew, q0, q0⟩
            refine plain_region_draws (fun W => KeyU w #[.int .i64 k, .bool b, .int .i64 n, .string (strB t), .slice (some ⟨bk, ok, none⟩) ks.length ck, .slice pl l.length cl] bk (ok + j) (ok + j) ks[j] ks[j] W) (by kernel_rfl) hU (fun hU => ?_)
            refine take 0 60 (v := .pointer (some ⟨w.heap.size, 4, none⟩)) rfl rfl (by kernel_rfl) (by kernel_rfl) (by kernel_rfl) rfl (fun W hW => exec_fieldAddr rfl rfl (fa_value _ _ (by decide) W)) (by assumption) ?_
            simp only [Act.put, List.setIfInBounds_toArray, List.set_cons_zero, List.set_cons_succ]
            refine take 1 61 (v := .slice (some ⟨bk, ok, none⟩) ks.length ck) rfl rfl (by kernel_rfl) (by kernel_rfl) (by kernel_rfl) rfl (fun W hW => exec_load rfl rfl (run_load1 (w := W) Tryz.underlying23 rfl (cellOf hW.box.1 rfl))) (by assumption) ?_
            simp only [Act.put, List.setIfInBounds_toArray, List.set_cons_zero, List.set_cons_succ]
            refine take 2 62 (v := .int .i64 (j : Int)) rfl rfl (by kernel_rfl) (by kernel_rfl) (by kernel_rfl) rfl (fun W hW => exec_move rfl rfl) (by assumption) ?_
            simp only [Act.put, List.setIfInBounds_toArray, List.set_cons_zero, List.set_cons_succ]
            refine take 3 63 (v := .pointer (some ⟨bk, ok + j, none⟩)) rfl rfl (by kernel_rfl) (by kernel_rfl) (by kernel_rfl) rfl (fun W hW => exec_indexAddr rfl rfl rfl (ia_keys _ _ _ _ _ hlt W)) (by assumption) ?_
            simp only [Act.put, List.setIfInBounds_toArray, List.set_cons_zero, List.set_cons_succ]
            refine take 4 64 (v := .string (strB ks[j])) rfl rfl (by kernel_rfl) (by kernel_rfl) (by kernel_rfl) rfl (fun W hW => exec_load rfl rfl (run_load1 (w := W) Tryz.underlying9 rfl hW.two)) (by assumption) ?_
            simp only [Act.put, List.setIfInBounds_toArray, List.set_cons_zero, List.set_cons_succ]
            refine onlyCall 5 65 rfl rfl (by kernel_rfl) rfl (exec_call [.string (strB ks[j])] rfl rfl Tryz.func30 (by kernel_rfl) (by kernel_rfl)) ?_
            refine (hcu _).mono ?_
            rintro e w' ⟨rfl, rfl⟩
            refine ⟨_, rfl, .inr (by assumption), ?_⟩
            simp only [Act.put, List.setIfInBounds_toArray, List.set_cons_zero, List.set_cons_succ]
            refine take 6 66 (v := .bool true) rfl rfl (by kernel_rfl) (by kernel_rfl) (by kernel_rfl) rfl (fun W hW => exec_unot (b := false) rfl rfl) (by assumption) ?_
            simp only [Act.put, List.setIfInBounds_toArray, List.set_cons_zero, List.set_cons_succ]
            refine take 7 67 (v := .bool true) rfl rfl (by kernel_rfl) (by kernel_rfl) (by kernel_rfl) rfl (fun W hW => exec_move rfl rfl) (by assumption) ?_
            simp only [Act.put, List.setIfInBounds_toArray, List.set_cons_zero, List.set_cons_succ]
            refine takeNot 8 68 rfl rfl (by kernel_rfl) (by kernel_rfl) (by kernel_rfl) rfl (by assumption) ?_
            simp only [Act.put, List.setIfInBounds_toArray, List.set_cons_zero, List.set_cons_succ]
            refine takeNot 9 69 rfl rfl (by kernel_rfl) (by kernel_rfl) (by kernel_rfl) rfl (by assumption) ?_
            simp only [Act.put, List.setIfInBounds_toArray, List.set_cons_zero, List.set_cons_succ]
            refine takeNot 10 70 rfl rfl (by kernel_rfl) (by kernel_rfl) (by kernel_rfl) rfl (by assumption) ?_
            simp only [Act.put, List.setIfInBounds_toArray, List.set_cons_zero, List.set_cons_succ]
            refine takeNot 11 71 rfl rfl (by kernel_rfl) (by kernel_rfl) (by kernel_rfl) rfl (by assumption) ?_
            simp only [Act.put, List.setIfInBounds_toArray, List.set_cons_zero, List.set_cons_succ]
            refine takeNot 12 72 rfl rfl (by kernel_rfl) (by kernel_rfl) (by kernel_rfl) rfl (by assumption) ?_
            simp only [Act.put, List.setIfInBounds_toArray, List.set_cons_zero, List.set_cons_succ]
            refine takeNot 13 73 rfl rfl (by kernel_rfl) (by kernel_rfl) (by kernel_rfl) rfl (by assumption) ?_
            simp only [Act.put, List.setIfInBounds_toArray, List.set_cons_zero, List.set_cons_succ]
            refine takeNot 14 74 rfl rfl (by kernel_rfl) (by kernel_rfl) (by kernel_rfl) rfl (by assumption) ?_
            simp only [Act.put, List.setIfInBounds_toArray, List.set_cons_zero, List.set_cons_succ]
            refine takeNot 15 75 rfl rfl (by kernel_rfl) (by kernel_rfl) (by kernel_rfl) rfl (by assumption) ?_
            simp only [Act.put, List.setIfInBounds_toArray, List.set_cons_zero, List.set_cons_succ]
            refine takeNot 16 76 rfl rfl (by kernel_rfl) (by kernel_rfl) (by kernel_rfl) rfl (by assumption) ?_
            simp only [Act.put, List.setIfInBounds_toArray, List.set_cons_zero, List.set_cons_succ]
            refine takeNot 17 77 rfl rfl (by kernel_rfl) (by kernel_rfl) (by kernel_rfl) rfl (by assumption) ?_
            simp only [Act.put, List.setIfInBounds_toArray, List.set_cons_zero, List.set_cons_succ]
            refine takeNot 18 78 rfl rfl (by kernel_rfl) (by kernel_rfl) (by kernel_rfl) rfl (by assumption) ?_
            simp only [Act.put, List.setIfInBounds_toArray, List.set_cons_zero, List.set_cons_succ]
            refine takeNot 19 79 rfl rfl (by kernel_rfl) (by kernel_rfl) (by kernel_rfl) rfl (by assumption) ?_
            simp only [Act.put, List.setIfInBounds_toArray, List.set_cons_zero, List.set_cons_succ]
            refine takeNot 20 80 rfl rfl (by kernel_rfl) (by kernel_rfl) (by kernel_rfl) rfl (by assumption) ?_
            simp only [Act.put, List.setIfInBounds_toArray, List.set_cons_zero, List.set_cons_succ]
            refine takeNot 21 81 rfl rfl (by kernel_rfl) (by kernel_rfl) (by kernel_rfl) rfl (by assumption) ?_
            simp only [Act.put, List.setIfInBounds_toArray, List.set_cons_zero, List.set_cons_succ]
            refine takeNot 22 82 rfl rfl (by kernel_rfl) (by kernel_rfl) (by kernel_rfl) rfl (by assumption) ?_
            simp only [Act.put, List.setIfInBounds_toArray, List.set_cons_zero, List.set_cons_succ]
            refine takeNot 23 83 rfl rfl (by kernel_rfl) (by kernel_rfl) (by kernel_rfl) rfl (by assumption) ?_
            simp only [Act.put, List.setIfInBounds_toArray, List.set_cons_zero, List.set_cons_succ]
            refine take 24 84 (v := .bool true) rfl rfl (by kernel_rfl) (by kernel_rfl) (by kernel_rfl) rfl (fun W hW => rfl) (by assumption) ?_
            simp only [Act.put, List.setIfInBounds_toArray, List.set_cons_zero, List.set_cons_succ]
            refine done (by kernel_rfl) ?_ _
            go_wp2
            go_ret
            exact ⟨ret_bool (by rw [hno hv]; simp), hU.box.2⟩
          | true =>
            simp only [hv] at hcu
            rw [hv] at hall
            by_cases hj0 : j = 0
            · have hgt : ∀ W : World, (binOp .gtr 3 (.int .i64 (j : Int)) (.int .i64 0)).run Tryz.prog W = .ok (.bool false) W := by
                intro W; simp [go_sem, hj0]
              have hU : KeyU w #[.int .i64 k, .bool b, .int .i64 n, .string (strB t), .slice (some ⟨bk, ok, none⟩) ks.length ck, .slice pl l.length cl] bk (ok + j) (ok + j) ks[j] ks[j] wr.drew := ⟨HT.out.below (Below.refl _ _).drew, q0, q0⟩
              refine plain_region_draws (fun W => KeyU w #[.int .i64 k, .bool b, .int .i64 n, .string (strB t), .slice (some ⟨bk, ok, none⟩) ks.length ck, .slice pl l.length cl] bk (ok + j) (ok + j) ks[j] ks[j] W) (by kernel_rfl) hU (fun hU => ?_)
              refine take 0 60 (v := .pointer (some ⟨w.heap.size, 4, none⟩)) rfl rfl (by kernel_rfl) (by kernel_rfl) (by kernel_rfl) rfl (fun W hW => exec_fieldAddr rfl rfl (fa_value _ _ (by decide) W)) (by assumption) ?_
              simp only [Act.put, List.setIfInBounds_toArray, List.set_cons_zero, List.set_cons_succ]
              refine take 1 61 (v := .slice (some ⟨bk, ok, none⟩) ks.length ck) rfl rfl (by kernel_rfl) (by kernel_rfl) (by kernel_rfl) rfl (fun W hW => exec_load rfl rfl (run_load1 (w := W) Tryz.underlying23 rfl (cellOf hW.box.1 rfl))) (by assumption) ?_
              simp only [Act.put, List.setIfInBounds_toArray, List.set_cons_zero, List.set_cons_succ]
              refine take 2 62 (v := .int .i64 (j : Int)) rfl rfl (by kernel_rfl) (by kernel_rfl) (by kernel_rfl) rfl (fun W hW => exec_move rfl rfl) (by assumption) ?_
              simp only [Act.put, List.setIfInBounds_toArray, List.set_cons_zero, List.set_cons_succ]
              refine take 3 63 (v := .pointer (some ⟨bk, ok + j, none⟩)) rfl rfl (by kernel_rfl) (by kernel_rfl) (by kernel_rfl) rfl (fun W hW => exec_indexAddr rfl rfl rfl (ia_keys _ _ _ _ _ hlt W)) (by assumption) ?_
              simp only [Act.put, List.setIfInBounds_toArray, List.set_cons_zero, List.set_cons_succ]
              refine take 4 64 (v := .string (strB ks[j])) rfl rfl (by kernel_rfl) (by kernel_rfl) (by kernel_rfl) rfl (fun W hW => exec_load rfl rfl (run_load1 (w := W) Tryz.underlying9 rfl hW.two)) (by assumption) ?_
              simp only [Act.put, List.setIfInBounds_toArray, List.set_cons_zero, List.set_cons_succ]
              refine onlyCall 5 65 rfl rfl (by kernel_rfl) rfl (exec_call [.string (strB ks[j])] rfl rfl Tryz.func30 (by kernel_rfl) (by kernel_rfl)) ?_
              refine (hcu _).mono ?_
              rintro e w' ⟨rfl, rfl⟩
              refine ⟨_, rfl, .inr (by assumption), ?_⟩
              simp only [Act.put, List.setIfInBounds_toArray, List.set_cons_zero, List.set_cons_succ]
              refine take 6 66 (v := .bool false) rfl rfl (by kernel_rfl) (by kernel_rfl) (by kernel_rfl) rfl (fun W hW => exec_unot (b := true) rfl rfl) (by assumption) ?_
              simp only [Act.put, List.setIfInBounds_toArray, List.set_cons_zero, List.set_cons_succ]
              refine take 7 67 (v := .bool false) rfl rfl (by kernel_rfl) (by kernel_rfl) (by kernel_rfl) rfl (fun W hW => exec_move rfl rfl) (by assumption) ?_
              simp only [Act.put, List.setIfInBounds_toArray, List.set_cons_zero, List.set_cons_succ]
              refine take 8 68 (v := .int .i64 (j : Int)) rfl rfl (by kernel_rfl) (by kernel_rfl) (by kernel_rfl) rfl (fun W hW => exec_move rfl rfl) (by assumption) ?_
              simp only [Act.put, List.setIfInBounds_toArray, List.set_cons_zero, List.set_cons_succ]
              refine take 9 69 (v := .bool false) rfl rfl (by kernel_rfl) (by kernel_rfl) (by kernel_rfl) rfl (fun W hW => exec_bini rfl rfl rfl (hgt W)) (by assumption) ?_
              simp only [Act.put, List.setIfInBounds_toArray, List.set_cons_zero, List.set_cons_succ]
              refine take 10 70 (v := .bool false) rfl rfl (by kernel_rfl) (by kernel_rfl) (by kernel_rfl) rfl (fun W hW => exec_move rfl rfl) (by assumption) ?_
              simp only [Act.put, List.setIfInBounds_toArray, List.set_cons_zero, List.set_cons_succ]
              refine takeNot 11 71 rfl rfl (by kernel_rfl) (by kernel_rfl) (by kernel_rfl) rfl (by assumption) ?_
              simp only [Act.put, List.setIfInBounds_toArray, List.set_cons_zero, List.set_cons_succ]
              refine takeNot 12 72 rfl rfl (by kernel_rfl) (by kernel_rfl) (by kernel_rfl) rfl (by assumption) ?_
              simp only [Act.put, List.setIfInBounds_toArray, List.set_cons_zero, List.set_cons_succ]
              refine takeNot 13 73 rfl rfl (by kernel_rfl) (by kernel_rfl) (by kernel_rfl) rfl (by assumption) ?_
              simp only [Act.put, List.setIfInBounds_toArray, List.set_cons_zero, List.set_cons_succ]
              refine takeNot 14 74 rfl rfl (by kernel_rfl) (by kernel_rfl) (by kernel_rfl) rfl (by assumption) ?_
              simp only [Act.put, List.setIfInBounds_toArray, List.set_cons_zero, List.set_cons_succ]
              refine takeNot 15 75 rfl rfl (by kernel_rfl) (by kernel_rfl) (by kernel_rfl) rfl (by assumption) ?_
              simp only [Act.put, List.setIfInBounds_toArray, List.set_cons_zero, List.set_cons_succ]
              refine takeNot 16 76 rfl rfl (by kernel_rfl) (by kernel_rfl) (by kernel_rfl) rfl (by assumption) ?_
              simp only [Act.put, List.setIfInBounds_toArray, List.set_cons_zero, List.set_cons_succ]
              refine takeNot 17 77 rfl rfl (by kernel_rfl) (by kernel_rfl) (by kernel_rfl) rfl (by assumption) ?_
              simp only [Act.put, List.setIfInBounds_toArray, List.set_cons_zero, List.set_cons_succ]
              refine takeNot 18 78 rfl rfl (by kernel_rfl) (by kernel_rfl) (by kernel_rfl) rfl (by assumption) ?_
              simp only [Act.put, List.setIfInBounds_toArray, List.set_cons_zero, List.set_cons_succ]
              refine takeNot 19 79 rfl rfl (by kernel_rfl) (by kernel_rfl) (by kernel_rfl) rfl (by assumption) ?_
              simp only [Act.put, List.setIfInBounds_toArray, List.set_cons_zero, List.set_cons_succ]
              refine takeNot 20 80 rfl rfl (by kernel_rfl) (by kernel_rfl) (by kernel_rfl) rfl (by assumption) ?_
              simp only [Act.put, List.setIfInBounds_toArray, List.set_cons_zero, List.set_cons_succ]
              refine takeNot 21 81 rfl rfl (by kernel_rfl) (by kernel_rfl) (by kernel_rfl) rfl (by assumption) ?_
              simp only [Act.put, List.setIfInBounds_toArray, List.set_cons_zero, List.set_cons_succ]
              refine takeNot 22 82 rfl rfl (by kernel_rfl) (by kernel_rfl) (by kernel_rfl) rfl (by assumption) ?_
              simp only [Act.put, List.setIfInBounds_toArray, List.set_cons_zero, List.set_cons_succ]
              refine take 23 83 (v := .bool false) rfl rfl (by kernel_rfl) (by kernel_rfl) (by kernel_rfl) rfl (fun W hW => rfl) (by assumption) ?_
              simp only [Act.put, List.setIfInBounds_toArray, List.set_cons_zero, List.set_cons_succ]
              refine take 24 84 (v := .bool false) rfl rfl (by kernel_rfl) (by kernel_rfl) (by kernel_rfl) rfl (fun W hW => rfl) (by assumption) ?_
              simp only [Act.put, List.setIfInBounds_toArray, List.set_cons_zero, List.set_cons_succ]
              refine done (by kernel_rfl) ?_ _
              have hr : risesB (ks.take (j + 1)) = true := by
                have e : ks.take j = [] := by rw [hj0]; rfl
                rw [htk, e]; rfl
              have HN := Lib.hid (show KeysOk (ks.take (j + 1)) from And.intro hall hr)
              have HT0 := Lib.hid hU.box
              have px4 := cellOf (o := 4) hU.box.1 rfl
              clear hU hcu htk hall hno hr q0 HQ
              go_wp2
              go_roundw
              case rel => exact ⟨j + 1, hlt1, by go_num, HN, HT0⟩
              case measure => simp [intOf]; omega
            · obtain ⟨m, hm⟩ : ∃ m, j = m + 1 := ⟨j - 1, by omega⟩
              have hmn : m < ks.length := by omega
              obtain ⟨bk', ok', hp', q1, _⟩ := (HK.out.1.below HT.out.2).get hmn
              cases hp'
              have hgt : ∀ W : World, (binOp .gtr 3 (.int .i64 (j : Int)) (.int .i64 0)).run Tryz.prog W = .ok (.bool true) W := by
                intro W; simp [go_sem]; omega
              have hsub : ∀ W : World, (binOp .sub 3 (.int .i64 (j : Int)) (.int .i64 1)).run Tryz.prog W = .ok (.int .i64 (m : Int)) W := by
                intro W
                have e : IntKind.i64.wrap ((j : Int) - 1) = m := by simp [IntKind.wrap, IntKind.signed, IntKind.bits]; omega
                simp [go_sem, e]
              have hU : KeyU w #[.int .i64 k, .bool b, .int .i64 n, .string (strB t), .slice (some ⟨bk, ok, none⟩) ks.length ck, .slice pl l.length cl] bk (ok + m) (ok + j) ks[m] ks[j] wr.drew := ⟨HT.out.below (Below.refl _ _).drew, q1, q0⟩
              have hrs : risesB (ks.take (j + 1)) = (risesB (ks.take j) && ltB ks[m] ks[j]) := by
                have h1 := risesB_step (l := ks) (j := m) (by omega)
                have e3 : ks[m + 1]'(by omega) = ks[j] := by simp only [hm]
                rw [show ks.take (j + 1) = ks.take (m + 2) by rw [hm], h1, e3, show ks.take (m + 1) = ks.take j by rw [hm]]
              cases hlb : ltB ks[m] ks[j] with
              | false =>
                have hge : ∀ W : World, (binOp .geq 9 (.string (strB ks[m])) (.string (strB ks[j]))).run Tryz.prog W = .ok (.bool true) W := fun W => by rw [geq_str, hlb]; rfl
                refine plain_region_draws (fun W => KeyU w #[.int .i64 k, .bool b, .int .i64 n, .string (strB t), .slice (some ⟨bk, ok, none⟩) ks.length ck, .slice pl l.length cl] bk (ok + m) (ok + j) ks[m] ks[j] W) (by kernel_rfl) hU (fun hU => ?_)
                refine take 0 60 (v := .pointer (some ⟨w.heap.size, 4, none⟩)) rfl rfl (by kernel_rfl) (by kernel_rfl) (by kernel_rfl) rfl (fun W hW => exec_fieldAddr rfl rfl (fa_value _ _ (by decide) W)) (by assumption) ?_
                simp only [Act.put, List.setIfInBounds_toArray, List.set_cons_zero, List.set_cons_succ]
                refine take 1 61 (v := .slice (some ⟨bk, ok, none⟩) ks.length ck) rfl rfl (by kernel_rfl) (by kernel_rfl) (by kernel_rfl) rfl (fun W hW => exec_load rfl rfl (run_load1 (w := W) Tryz.underlying23 rfl (cellOf hW.box.1 rfl))) (by assumption) ?_
                simp only [Act.put, List.setIfInBounds_toArray, List.set_cons_zero, List.set_cons_succ]
                refine take 2 62 (v := .int .i64 (j : Int)) rfl rfl (by kernel_rfl) (by kernel_rfl) (by kernel_rfl) rfl (fun W hW => exec_move rfl rfl) (by assumption) ?_
                simp only [Act.put, List.setIfInBounds_toArray, List.set_cons_zero, List.set_cons_succ]
                refine take 3 63 (v := .pointer (some ⟨bk, ok + j, none⟩)) rfl rfl (by kernel_rfl) (by kernel_rfl) (by kernel_rfl) rfl (fun W hW => exec_indexAddr rfl rfl rfl (ia_keys _ _ _ _ _ hlt W)) (by assumption) ?_
                simp only [Act.put, List.setIfInBounds_toArray, List.set_cons_zero, List.set_cons_succ]
                refine take 4 64 (v := .string (strB ks[j])) rfl rfl (by kernel_rfl) (by kernel_rfl) (by kernel_rfl) rfl (fun W hW => exec_load rfl rfl (run_load1 (w := W) Tryz.underlying9 rfl hW.two)) (by assumption) ?_
                simp only [Act.put, List.setIfInBounds_toArray, List.set_cons_zero, List.set_cons_succ]
                refine onlyCall 5 65 rfl rfl (by kernel_rfl) rfl (exec_call [.string (strB ks[j])] rfl rfl Tryz.func30 (by kernel_rfl) (by kernel_rfl)) ?_
                refine (hcu _).mono ?_
                rintro e w' ⟨rfl, rfl⟩
                refine ⟨_, rfl, .inr (by assumption), ?_⟩
                simp only [Act.put, List.setIfInBounds_toArray, List.set_cons_zero, List.set_cons_succ]
                refine take 6 66 (v := .bool false) rfl rfl (by kernel_rfl) (by kernel_rfl) (by kernel_rfl) rfl (fun W hW => exec_unot (b := true) rfl rfl) (by assumption) ?_
                simp only [Act.put, List.setIfInBounds_toArray, List.set_cons_zero, List.set_cons_succ]
                refine take 7 67 (v := .bool false) rfl rfl (by kernel_rfl) (by kernel_rfl) (by kernel_rfl) rfl (fun W hW => exec_move rfl rfl) (by assumption) ?_
                simp only [Act.put, List.setIfInBounds_toArray, List.set_cons_zero, List.set_cons_succ]
                refine take 8 68 (v := .int .i64 (j : Int)) rfl rfl (by kernel_rfl) (by kernel_rfl) (by kernel_rfl) rfl (fun W hW => exec_move rfl rfl) (by assumption) ?_
                simp only [Act.put, List.setIfInBounds_toArray, List.set_cons_zero, List.set_cons_succ]
                refine take 9 69 (v := .bool true) rfl rfl (by kernel_rfl) (by kernel_rfl) (by kernel_rfl) rfl (fun W hW => exec_bini rfl rfl rfl (hgt W)) (by assumption) ?_
                simp only [Act.put, List.setIfInBounds_toArray, List.set_cons_zero, List.set_cons_succ]
                refine take 10 70 (v := .bool true) rfl rfl (by kernel_rfl) (by kernel_rfl) (by kernel_rfl) rfl (fun W hW => exec_move rfl rfl) (by assumption) ?_
                simp only [Act.put, List.setIfInBounds_toArray, List.set_cons_zero, List.set_cons_succ]
                refine take 11 71 (v := .pointer (some ⟨w.heap.size, 4, none⟩)) rfl rfl (by kernel_rfl) (by kernel_rfl) (by kernel_rfl) rfl (fun W hW => exec_fieldAddr rfl rfl (fa_value _ _ (by decide) W)) (by assumption) ?_
                simp only [Act.put, List.setIfInBounds_toArray, List.set_cons_zero, List.set_cons_succ]
                refine take 12 72 (v := .slice (some ⟨bk, ok, none⟩) ks.length ck) rfl rfl (by kernel_rfl) (by kernel_rfl) (by kernel_rfl) rfl (fun W hW => exec_load rfl rfl (run_load1 (w := W) Tryz.underlying23 rfl (cellOf hW.box.1 rfl))) (by assumption) ?_
                simp only [Act.put, List.setIfInBounds_toArray, List.set_cons_zero, List.set_cons_succ]
                refine take 13 73 (v := .int .i64 (j : Int)) rfl rfl (by kernel_rfl) (by kernel_rfl) (by kernel_rfl) rfl (fun W hW => exec_move rfl rfl) (by assumption) ?_
                simp only [Act.put, List.setIfInBounds_toArray, List.set_cons_zero, List.set_cons_succ]
                refine take 14 74 (v := .int .i64 (m : Int)) rfl rfl (by kernel_rfl) (by kernel_rfl) (by kernel_rfl) rfl (fun W hW => exec_bini rfl rfl rfl (hsub W)) (by assumption) ?_
                simp only [Act.put, List.setIfInBounds_toArray, List.set_cons_zero, List.set_cons_succ]
                refine take 15 75 (v := .pointer (some ⟨bk, ok + m, none⟩)) rfl rfl (by kernel_rfl) (by kernel_rfl) (by kernel_rfl) rfl (fun W hW => exec_indexAddr rfl rfl rfl (ia_keys _ _ _ _ _ hmn W)) (by assumption) ?_
                simp only [Act.put, List.setIfInBounds_toArray, List.set_cons_zero, List.set_cons_succ]
                refine take 16 76 (v := .string (strB ks[m])) rfl rfl (by kernel_rfl) (by kernel_rfl) (by kernel_rfl) rfl (fun W hW => exec_load rfl rfl (run_load1 (w := W) Tryz.underlying9 rfl hW.one)) (by assumption) ?_
                simp only [Act.put, List.setIfInBounds_toArray, List.set_cons_zero, List.set_cons_succ]
                refine take 17 77 (v := .pointer (some ⟨w.heap.size, 4, none⟩)) rfl rfl (by kernel_rfl) (by kernel_rfl) (by kernel_rfl) rfl (fun W hW => exec_fieldAddr rfl rfl (fa_value _ _ (by decide) W)) (by assumption) ?_
                simp only [Act.put, List.setIfInBounds_toArray, List.set_cons_zero, List.set_cons_succ]
                refine take 18 78 (v := .slice (some ⟨bk, ok, none⟩) ks.length ck) rfl rfl (by kernel_rfl) (by kernel_rfl) (by kernel_rfl) rfl (fun W hW => exec_load rfl rfl (run_load1 (w := W) Tryz.underlying23 rfl (cellOf hW.box.1 rfl))) (by assumption) ?_
                simp only [Act.put, List.setIfInBounds_toArray, List.set_cons_zero, List.set_cons_succ]
                refine take 19 79 (v := .int .i64 (j : Int)) rfl rfl (by kernel_rfl) (by kernel_rfl) (by kernel_rfl) rfl (fun W hW => exec_move rfl rfl) (by assumption) ?_
                simp only [Act.put, List.setIfInBounds_toArray, List.set_cons_zero, List.set_cons_succ]
                refine take 20 80 (v := .pointer (some ⟨bk, ok + j, none⟩)) rfl rfl (by kernel_rfl) (by kernel_rfl) (by kernel_rfl) rfl (fun W hW => exec_indexAddr rfl rfl rfl (ia_keys _ _ _ _ _ hlt W)) (by assumption) ?_
                simp only [Act.put, List.setIfInBounds_toArray, List.set_cons_zero, List.set_cons_succ]
                refine take 21 81 (v := .string (strB ks[j])) rfl rfl (by kernel_rfl) (by kernel_rfl) (by kernel_rfl) rfl (fun W hW => exec_load rfl rfl (run_load1 (w := W) Tryz.underlying9 rfl hW.two)) (by assumption) ?_
                simp only [Act.put, List.setIfInBounds_toArray, List.set_cons_zero, List.set_cons_succ]
                refine take 22 82 (v := .bool true) rfl rfl (by kernel_rfl) (by kernel_rfl) (by kernel_rfl) rfl (fun W hW => exec_bins rfl rfl rfl (hge W)) (by assumption) ?_
                simp only [Act.put, List.setIfInBounds_toArray, List.set_cons_zero, List.set_cons_succ]
                refine take 23 83 (v := .bool true) rfl rfl (by kernel_rfl) (by kernel_rfl) (by kernel_rfl) rfl (fun W hW => rfl) (by assumption) ?_
                simp only [Act.put, List.setIfInBounds_toArray, List.set_cons_zero, List.set_cons_succ]
                refine take 24 84 (v := .bool true) rfl rfl (by kernel_rfl) (by kernel_rfl) (by kernel_rfl) rfl (fun W hW => rfl) (by assumption) ?_
                simp only [Act.put, List.setIfInBounds_toArray, List.set_cons_zero, List.set_cons_succ]
                refine done (by kernel_rfl) ?_ _
                have hrf : risesB ks = false := by
                  cases hrb : risesB ks with
                  | false => rfl
                  | true =>
                    have := risesB_take hrb (j + 1) hlt1
                    rw [hrs, hlb] at this
                    simp at this
                go_wp2
                go_ret
                exact ⟨ret_bool (by rw [hrf]; simp), hU.box.2⟩
              | true =>
                have hge : ∀ W : World, (binOp .geq 9 (.string (strB ks[m])) (.string (strB ks[j]))).run Tryz.prog W = .ok (.bool false) W := fun W => by rw [geq_str, hlb]; rfl
                refine plain_region_draws (fun W => KeyU w #[.int .i64 k, .bool b, .int .i64 n, .string (strB t), .slice (some ⟨bk, ok, none⟩) ks.length ck, .slice pl l.length cl] bk (ok + m) (ok + j) ks[m] ks[j] W) (by kernel_rfl) hU (fun hU => ?_)
                refine take 0 60 (v := .pointer (some ⟨w.heap.size, 4, none⟩)) rfl rfl (by kernel_rfl) (by kernel_rfl) (by kernel_rfl) rfl (fun W hW => exec_fieldAddr rfl rfl (fa_value _ _ (by decide) W)) (by assumption) ?_
                simp only [Act.put, List.setIfInBounds_toArray, List.set_cons_zero, List.set_cons_succ]
                refine take 1 61 (v := .slice (some ⟨bk, ok, none⟩) ks.length ck) rfl rfl (by kernel_rfl) (by kernel_rfl) (by kernel_rfl) rfl (fun W hW => exec_load rfl rfl (run_load1 (w := W) Tryz.underlying23 rfl (cellOf hW.box.1 rfl))) (by assumption) ?_
                simp only [Act.put, List.setIfInBounds_toArray, List.set_cons_zero, List.set_cons_succ]
                refine take 2 62 (v := .int .i64 (j : Int)) rfl rfl (by kernel_rfl) (by kernel_rfl) (by kernel_rfl) rfl (fun W hW => exec_move rfl rfl) (by assumption) ?_
                simp only [Act.put, List.setIfInBounds_toArray, List.set_cons_zero, List.set_cons_succ]
                refine take 3 63 (v := .pointer (some ⟨bk, ok + j, none⟩)) rfl rfl (by kernel_rfl) (by kernel_rfl) (by kernel_rfl) rfl (fun W hW => exec_indexAddr rfl rfl rfl (ia_keys _ _ _ _ _ hlt W)) (by assumption) ?_
                simp only [Act.put, List.setIfInBounds_toArray, List.set_cons_zero, List.set_cons_succ]
                refine take 4 64 (v := .string (strB ks[j])) rfl rfl (by kernel_rfl) (by kernel_rfl) (by kernel_rfl) rfl (fun W hW => exec_load rfl rfl (run_load1 (w := W) Tryz.underlying9 rfl hW.two)) (by assumption) ?_
                simp only [Act.put, List.setIfInBounds_toArray, List.set_cons_zero, List.set_cons_succ]
                refine onlyCall 5 65 rfl rfl (by kernel_rfl) rfl (exec_call [.string (strB ks[j])] rfl rfl Tryz.func30 (by kernel_rfl) (by kernel_rfl)) ?_
                refine (hcu _).mono ?_
                rintro e w' ⟨rfl, rfl⟩
                refine ⟨_, rfl, .inr (by assumption), ?_⟩
                simp only [Act.put, List.setIfInBounds_toArray, List.set_cons_zero, List.set_cons_succ]
                refine take 6 66 (v := .bool false) rfl rfl (by kernel_rfl) (by kernel_rfl) (by kernel_rfl) rfl (fun W hW => exec_unot (b := true) rfl rfl) (by assumption) ?_
                simp only [Act.put, List.setIfInBounds_toArray, List.set_cons_zero, List.set_cons_succ]
                refine take 7 67 (v := .bool false) rfl rfl (by kernel_rfl) (by kernel_rfl) (by kernel_rfl) rfl (fun W hW => exec_move rfl rfl) (by assumption) ?_
                simp only [Act.put, List.setIfInBounds_toArray, List.set_cons_zero, List.set_cons_succ]
                refine take 8 68 (v := .int .i64 (j : Int)) rfl rfl (by kernel_rfl) (by kernel_rfl) (by kernel_rfl) rfl (fun W hW => exec_move rfl rfl) (by assumption) ?_
                simp only [Act.put, List.setIfInBounds_toArray, List.set_cons_zero, List.set_cons_succ]
                refine take 9 69 (v := .bool true) rfl rfl (by kernel_rfl) (by kernel_rfl) (by kernel_rfl) rfl (fun W hW => exec_bini rfl rfl rfl (hgt W)) (by assumption) ?_
                simp only [Act.put, List.setIfInBounds_toArray, List.set_cons_zero, List.set_cons_succ]
                refine take 10 70 (v := .bool true) rfl rfl (by kernel_rfl) (by kernel_rfl) (by kernel_rfl) rfl (fun W hW => exec_move rfl rfl) (by assumption) ?_
                simp only [Act.put, List.setIfInBounds_toArray, List.set_cons_zero, List.set_cons_succ]
                refine take 11 71 (v := .pointer (some ⟨w.heap.size, 4, none⟩)) rfl rfl (by kernel_rfl) (by kernel_rfl) (by kernel_rfl) rfl (fun W hW => exec_fieldAddr rfl rfl (fa_value _ _ (by decide) W)) (by assumption) ?_
                simp only [Act.put, List.setIfInBounds_toArray, List.set_cons_zero, List.set_cons_succ]
                refine take 12 72 (v := .slice (some ⟨bk, ok, none⟩) ks.length ck) rfl rfl (by kernel_rfl) (by kernel_rfl) (by kernel_rfl) rfl (fun W hW => exec_load rfl rfl (run_load1 (w := W) Tryz.underlying23 rfl (cellOf hW.box.1 rfl))) (by assumption) ?_
                simp only [Act.put, List.setIfInBounds_toArray, List.set_cons_zero, List.set_cons_succ]
                refine take 13 73 (v := .int .i64 (j : Int)) rfl rfl (by kernel_rfl) (by kernel_rfl) (by kernel_rfl) rfl (fun W hW => exec_move rfl rfl) (by assumption) ?_
                simp only [Act.put, List.setIfInBounds_toArray, List.set_cons_zero, List.set_cons_succ]
                refine take 14 74 (v := .int .i64 (m : Int)) rfl rfl (by kernel_rfl) (by kernel_rfl) (by kernel_rfl) rfl (fun W hW => exec_bini rfl rfl rfl (hsub W)) (by assumption) ?_
                simp only [Act.put, List.setIfInBounds_toArray, List.set_cons_zero, List.set_cons_succ]
                refine take 15 75 (v := .pointer (some ⟨bk, ok + m, none⟩)) rfl rfl (by kernel_rfl) (by kernel_rfl) (by kernel_rfl) rfl (fun W hW => exec_indexAddr rfl rfl rfl (ia_keys _ _ _ _ _ hmn W)) (by assumption) ?_
                simp only [Act.put, List.setIfInBounds_toArray, List.set_cons_zero, List.set_cons_succ]
                refine take 16 76 (v := .string (strB ks[m])) rfl rfl (by kernel_rfl) (by kernel_rfl) (by kernel_rfl) rfl (fun W hW => exec_load rfl rfl (run_load1 (w := W) Tryz.underlying9 rfl hW.one)) (by assumption) ?_
                simp only [Act.put, List.setIfInBounds_toArray, List.set_cons_zero, List.set_cons_succ]
                refine take 17 77 (v := .pointer (some ⟨w.heap.size, 4, none⟩)) rfl rfl (by kernel_rfl) (by kernel_rfl) (by kernel_rfl) rfl (fun W hW => exec_fieldAddr rfl rfl (fa_value _ _ (by decide) W)) (by assumption) ?_
                simp only [Act.put, List.setIfInBounds_toArray, List.set_cons_zero, List.set_cons_succ]
                refine take 18 78 (v := .slice (some ⟨bk, ok, none⟩) ks.length ck) rfl rfl (by kernel_rfl) (by kernel_rfl) (by kernel_rfl) rfl (fun W hW => exec_load rfl rfl (run_load1 (w := W) Tryz.underlying23 rfl (cellOf hW.box.1 rfl))) (by assumption) ?_
                simp only [Act.put, List.setIfInBounds_toArray, List.set_cons_zero, List.set_cons_succ]
                refine take 19 79 (v := .int .i64 (j : Int)) rfl rfl (by kernel_rfl) (by kernel_rfl) (by kernel_rfl) rfl (fun W hW => exec_move rfl rfl) (by assumption) ?_
                simp only [Act.put, List.setIfInBounds_toArray, List.set_cons_zero, List.set_cons_succ]
                refine take 20 80 (v := .pointer (some ⟨bk, ok + j, none⟩)) rfl rfl (by kernel_rfl) (by kernel_rfl) (by kernel_rfl) rfl (fun W hW => exec_indexAddr rfl rfl rfl (ia_keys _ _ _ _ _ hlt W)) (by assumption) ?_
                simp only [Act.put, List.setIfInBounds_toArray, List.set_cons_zero, List.set_cons_succ]
                refine take 21 81 (v := .string (strB ks[j])) rfl rfl (by kernel_rfl) (by kernel_rfl) (by kernel_rfl) rfl (fun W hW => exec_load rfl rfl (run_load1 (w := W) Tryz.underlying9 rfl hW.two)) (by assumption) ?_
                simp only [Act.put, List.setIfInBounds_toArray, List.set_cons_zero, List.set_cons_succ]
                refine take 22 82 (v := .bool false) rfl rfl (by kernel_rfl) (by kernel_rfl) (by kernel_rfl) rfl (fun W hW => exec_bins rfl rfl rfl (hge W)) (by assumption) ?_
                simp only [Act.put, List.setIfInBounds_toArray, List.set_cons_zero, List.set_cons_succ]
                refine take 23 83 (v := .bool false) rfl rfl (by kernel_rfl) (by kernel_rfl) (by kernel_rfl) rfl (fun W hW => rfl) (by assumption) ?_
                simp only [Act.put, List.setIfInBounds_toArray, List.set_cons_zero, List.set_cons_succ]
                refine take 24 84 (v := .bool false) rfl rfl (by kernel_rfl) (by kernel_rfl) (by kernel_rfl) rfl (fun W hW => rfl) (by assumption) ?_
                simp only [Act.put, List.setIfInBounds_toArray, List.set_cons_zero, List.set_cons_succ]
                refine done (by kernel_rfl) ?_ _
                have hr : risesB (ks.take (j + 1)) = true := by rw [hrs, hlb, HQ.out.2]; rfl
                have HN := Lib.hid (show KeysOk (ks.take (j + 1)) from And.intro hall hr)
                have HT0 := Lib.hid hU.box
                have px4 := cellOf (o := 4) hU.box.1 rfl
                clear hU hcu htk hall hno hr q0 q1 HQ hrs hm hsub hgt hge
                go_wp2
                go_roundw
                case rel => exact ⟨j + 1, hlt1, by go_num, HN, HT0⟩
                case measure => simp [intOf]; omega
        · obtain rfl : j = ks.length := by omega
          have hR := HQ.out
          rw [List.take_length] at hR
          have HR := Lib.hid hR
          have HT0 := HT
          clear hT1 hR HQ
          go_wp2
          go_loopw [4] (fun i W => ∃ j : Nat, j ≤ l.length ∧ i = .int .i64 (j : Int) ∧ Hid (ValsOk (l.take j)) ∧ Hid (OneB w W #[.int .i64 k, .bool b, .int .i64 n, .string (strB t), .slice pk ks.length ck, .slice pl l.length cl])) (fun i _ => l.length - (intOf i).toNat)
          case atStart => exact ⟨0, Nat.zero_le _, rfl, Lib.hid rfl, HT0⟩
          case round =>
            clear HT HT0 px0 px1 px2 px3 px4 px5
            obtain ⟨j, hj, rfl, HQ, HT⟩ := hrel
            have hT1 := HT.out
            have px0 := cellOf (o := 0) hT1.1 rfl; have px1 := cellOf (o := 1) hT1.1 rfl; have px2 := cellOf (o := 2) hT1.1 rfl; have px3 := cellOf (o := 3) hT1.1 rfl; have px4 := cellOf (o := 4) hT1.1 rfl; have px5 := cellOf (o := 5) hT1.1 rfl
            by_cases hlt : j < l.length
            · have hlt1 : j + 1 ≤ l.length := hlt
              obtain ⟨g1, o1, pk1, ck1, pl1, cl1, rfl, ⟨a0, a1, a2, a3, a4, a5⟩, hv1⟩ := (HK.out.2.1.below hT1.2).at hlt
              have hcall := HK.out.2.2 l[j] (List.getElem_mem hlt) _ _ hv1
              have htk : (l.take (j + 1)).all (mayV Lib.validD) = mayV Lib.validD l[j] := by
                have hq : (l.take j).all (mayV Lib.validD) = true := HQ.out
                rw [List.take_succ_eq_append_getElem hlt, List.all_append, hq]; simp
              have hno : mayV Lib.validD l[j] = false → l.all (mayV Lib.validD) = false := fun h => List.all_eq_false.2 ⟨l[j], List.getElem_mem hlt, by rw [h]; simp⟩
              generalize mayV Lib.validD l[j] = on at *
              generalize l[j] = s1 at *
              have hok : on = true → ValsOk (l.take (j + 1)) := fun h => htk.trans h
              have hnok : on = false → l.all (mayV Lib.validD) = false := hno
              cases on with
              | true =>
                have hv := hok rfl
                have HD := Lib.hid (And.intro hcall (And.intro hv hT1))
                clear hcall htk hno hv1 hT1 hok hnok hv
                go_wp2_with (go_at_call 68
                             (
                               refine HD.out.1.mono ?_
                               rintro e w3 ⟨rfl, hb3⟩
                               have HG := Lib.hid (HD.out.2.2.below hb3)
                               clear hb3))
                go_roundw
                case rel => exact ⟨j + 1, hlt1, by go_num, Lib.hid HD.out.2.1, HG⟩
                case measure => simp [intOf]; omega
              | false =>
                have hv := MayNo.mk (hnok rfl)
                have HD := Lib.hid (And.intro hcall (And.intro hv hT1))
                clear hcall htk hno hv1 hT1 hok hnok hv
                go_wp2_with (go_at_call 68
                             (
                               refine HD.out.1.mono ?_
                               rintro e w3 ⟨rfl, hb3⟩
                               have HG := Lib.hid (HD.out.2.2.below hb3)
                               clear hb3))
                go_ret
                exact ⟨ret_bool (by rw [HD.out.2.1.no]; simp), HG.out.2⟩
            · obtain rfl : j = l.length := by omega
              have hQ := HQ.out
              rw [List.take_length] at hQ
              have HQ2 := Lib.hid hQ
              clear hT1 hQ
              go_wp2
              go_ret
              exact ⟨ret_bool (by rw [HR.out.1, HR.out.2, HQ2.out]; rfl), HT.out.2⟩
end Go.Proofs.YtnkaegdnjfpliaaGreatDoor

/-! The document's Size and Check. Printed by gen_sizer.py. -/
namespace Go.Proofs.YtnkaegdnjfpliaaGreatDoor
set_option linter.unusedSimpArgs false
set_option linter.unusedVariables false
open Go.RowKit

theorem countV_mk (k : Int) (b : Bool) (n : Int) (t : List UInt8) (ks : List (List UInt8)) (l : List V) : countV (.mk k b n t ks l) = 1 + countVs l := by rw [countV]
theorem deepV_mk (k : Int) (b : Bool) (n : Int) (t : List UInt8) (ks : List (List UInt8)) (l : List V) : deepV (.mk k b n t ks l) = deepVs l + 1 := by rw [deepV]
theorem bytesV_mk (k : Int) (b : Bool) (n : Int) (t : List UInt8) (ks : List (List UInt8)) (l : List V) : bytesV (.mk k b n t ks l) = t.length + (ks.map List.length).sum + bytesVs l := by rw [bytesV]
theorem longV_mk (k : Int) (b : Bool) (n : Int) (t : List UInt8) (ks : List (List UInt8)) (l : List V) : longV (.mk k b n t ks l) = max l.length (longVs l) := by rw [longV]
theorem countVs_snoc (l : List V) (v : V) : countVs (l ++ [v]) = countVs l + countV v := by
  induction l with
  | nil => simp [countVs]
  | cons a r ih => simp only [List.cons_append, countVs, ih]; omega
theorem deepVs_snoc (l : List V) (v : V) : deepVs (l ++ [v]) = max (deepVs l) (deepV v) := by
  induction l with
  | nil => simp [deepVs]
  | cons a r ih => simp only [List.cons_append, deepVs, ih]; omega
theorem bytesVs_snoc (l : List V) (v : V) : bytesVs (l ++ [v]) = bytesVs l + bytesV v := by
  induction l with
  | nil => simp [bytesVs]
  | cons a r ih => simp only [List.cons_append, bytesVs, ih]; omega
theorem longVs_snoc (l : List V) (v : V) : longVs (l ++ [v]) = max (longVs l) (longV v) := by
  induction l with
  | nil => simp [longVs]
  | cons a r ih => simp only [List.cons_append, longVs, ih]; omega
/-- All four are within what is counted. -/
theorem sizes_tot : ∀ v : V, countV v ≤ totV v ∧ deepV v ≤ totV v ∧ bytesV v ≤ totV v ∧ longV v ≤ totV v := by
  refine V.ind fun k b n t ks l ih => ?_
  have hl : countVs l ≤ totVs l ∧ deepVs l ≤ totVs l ∧ bytesVs l ≤ totVs l ∧ longVs l ≤ totVs l := by
    induction l with
    | nil => simp [countVs, deepVs, bytesVs, longVs]
    | cons a r ihr =>
      have h1 := ih a (by simp)
      have h2 := ihr fun v hv => ih v (by simp [hv])
      simp only [countVs, deepVs, bytesVs, longVs, totVs]
      omega
  have hn := totVs_length l
  rw [countV_mk, deepV_mk, bytesV_mk, longV_mk, totV_mk]
  omega
/-- What Size tells so far. -/
def SizeAt (c d y g : Int) (ks : List (List UInt8)) (t : List UInt8) (n : Nat) (l : List V) : Prop :=
  c = ((1 + countVs l : Nat) : Int) ∧ d = (deepVs l : Int) ∧ y = ((t.length + (ks.map List.length).sum + bytesVs l : Nat) : Int) ∧ g = ((max n (longVs l) : Nat) : Int)
theorem exec_lenB {a : Act} {w : World} {o : Oper} {x : Operand} {l : List UInt8} (ho : o.op = .call { callee := .builtin .len, args := #[x], argTypes := #[9] }) (hx : a.eval x = .string (strB l)) : (execOp a.eval o).run Tryz.prog w = .ok (.value (.int .i64 (l.length : Int))) w := by
  have e : (strB l).size = l.length := rfl
  unfold execOp; simp only [ho, resolve, invoke, Sem.run_bind, Sem.run_pure, Result.andThen_ok, List.map_toArray, List.map_cons, List.map_nil, hx]; simp [go_sem, e]
theorem exec_max {a : Act} {w : World} {o : Oper} {x y : Operand} {n m : Nat} (ho : o.op = .call { callee := .builtin .max, args := #[x, y], argTypes := #[3, 3] }) (hx : a.eval x = .int .i64 (n : Int)) (hy : a.eval y = .int .i64 (m : Int)) : (execOp a.eval o).run Tryz.prog w = .ok (.value (.int .i64 ((max n m : Nat) : Int))) w := by
  unfold execOp; simp only [ho, resolve, invoke, Sem.run_bind, Sem.run_pure, Result.andThen_ok, List.map_toArray, List.map_cons, List.map_nil, hx, hy]
  have h : (Builtin.max_ #[3, 3] o.type #[.int .i64 (n : Int), .int .i64 (m : Int)]).run Tryz.prog w = .ok (.int .i64 ((max n m : Nat) : Int)) w := by
    unfold Builtin.max_
    simp [Builtin.max2, go_sem]
    rcases Nat.le_total n m with h | h
    · by_cases e : (n : Int) < m
      · simp [e, Nat.max_eq_right h]
        intro h2; omega
      · have : n = m := by omega
        subst this; simp
    · have e : ¬ (n : Int) < m := by omega
      simp [e, Nat.max_eq_left h]
      intro h2; omega
  simp [builtin, h]
theorem exec_addn {a : Act} {w : World} {o : Oper} {x y : Operand} {n m : Nat} (ho : o.op = .binOp .add 3 x y 3) (hx : a.eval x = .int .i64 (n : Int)) (hy : a.eval y = .int .i64 (m : Int)) (hb : n + m ≤ 4398046511104) : (execOp a.eval o).run Tryz.prog w = .ok (.value (.int .i64 ((n + m : Nat) : Int))) w :=
  exec_bini ho hx hy (by
    have e : IntKind.i64.wrap ((n : Int) + (m : Int)) = ((n + m : Nat) : Int) := by simp [IntKind.wrap, IntKind.signed, IntKind.bits]; omega
    simp [go_sem, e])
theorem keysum_take (ks : List (List UInt8)) (j : Nat) : ((ks.take j).map List.length).sum ≤ (ks.map List.length).sum := by
  have e : ks.take j ++ ks.drop j = ks := List.take_append_drop _ _
  have h := congrArg (fun l => (l.map List.length).sum) e
  simp only [List.map_append, List.sum_append] at h
  omega
theorem totVs_take (l : List V) (j : Nat) : totVs (l.take j) ≤ totVs l := by
  have e : l.take j ++ l.drop j = l := List.take_append_drop _ _
  have := congrArg totVs e
  rw [totVs_append] at this
  omega
theorem sizes_tots (l : List V) : countVs l ≤ totVs l ∧ deepVs l ≤ totVs l ∧ bytesVs l ≤ totVs l ∧ longVs l ≤ totVs l := by
  induction l with
  | nil => simp [countVs, deepVs, bytesVs, longVs]
  | cons a r ihr =>
    have h1 := sizes_tot a
    simp only [countVs, deepVs, bytesVs, longVs, totVs]
    omega
/-- A list of a value, element by element. -/
structure SixU (w : World) (X : Array Value) (bl o : Nat) (c0 c1 c2 c3 c4 c5 : Value) (W : World) : Prop where
  box : OneB w W X
  h0 : W.cell? ⟨bl, o, none⟩ = some c0
  h1 : W.cell? ⟨bl, o + 1, none⟩ = some c1
  h2 : W.cell? ⟨bl, o + 2, none⟩ = some c2
  h3 : W.cell? ⟨bl, o + 3, none⟩ = some c3
  h4 : W.cell? ⟨bl, o + 4, none⟩ = some c4
  h5 : W.cell? ⟨bl, o + 5, none⟩ = some c5
theorem SixU.keep {w W W' : World} {X : Array Value} {bl o : Nat} {c0 c1 c2 c3 c4 c5 : Value} (h : SixU w X bl o c0 c1 c2 c3 c4 c5 W) (b : Below W.heap.size W W') : SixU w X bl o c0 c1 c2 c3 c4 c5 W' :=
  ⟨h.box.below b, belowCell b (ltOf h.h0) h.h0, belowCell b (ltOf h.h1) h.h1, belowCell b (ltOf h.h2) h.h2, belowCell b (ltOf h.h3) h.h3, belowCell b (ltOf h.h4) h.h4, belowCell b (ltOf h.h5) h.h5⟩
set_option maxRecDepth 100000 in
set_option maxHeartbeats 8000000 in
theorem sizeR_any : ∀ (v : V) (w : World) (x : Array Value), totV v ≤ 1099511627776 → VRd w v x →
    Calls Tryz.prog 52 #[.agg x] w fun e w' => e = .returned (.tuple #[.int .i64 (countV v : Int), .int .i64 (deepV v : Int), .int .i64 (bytesV v : Int), .int .i64 (longV v : Int)]) ∧ Below w.heap.size w w' := by
  refine V.ind fun k b n t ks l ih => ?_
  intro w x htot hx
  rw [totV_mk] at htot
  have hT := OneB.start w x
  obtain ⟨pk, ck, pl, cl, rfl, htx, hk1, hl1⟩ := VRd_iff.1 hx
  have z1 : (ks.length : Int) ≤ 140737488355328 := by have := hk1.1; have := hk1.2.1; omega
  have z2 : (l.length : Int) ≤ 140737488355328 := by have := hl1.1.2.1; omega
  have HK := Lib.hid (And.intro hk1 (And.intro hl1 (And.intro ih htot)))
  rw [countV_mk, deepV_mk, bytesV_mk, longV_mk]
  have hb0 : bytesV (.mk 0 false 0 t [] []) = t.length := by rw [bytesV_mk]; simp [bytesVs]
  have hT0 : OneB w (w.alloc (.cells #[.int .i64 k, .bool b, .int .i64 n, .string (strB t), .slice pk ks.length ck, .slice pl l.length cl] 26)).drew #[.int .i64 k, .bool b, .int .i64 n, .string (strB t), .slice pk ks.length ck, .slice pl l.length cl] := hT.below (Below.refl _ _).drew
  clear ih hx hk1 hl1 hT htx htot hb0
  go_enter Tryz.func52, Tryz.ntmps52
  go_wp2
  refine plain_region_draws (fun W => OneB w W #[.int .i64 k, .bool b, .int .i64 n, .string (strB t), .slice pk ks.length ck, .slice pl l.length cl]) (by kernel_rfl) hT0 (fun hU => ?_)
  refine take 0 16 (v := .pointer (some ⟨w.heap.size, 3, none⟩)) rfl rfl (by kernel_rfl) (by kernel_rfl) (by kernel_rfl) rfl (fun W hW => exec_fieldAddr rfl rfl (fa_value _ _ (by decide) W)) (by assumption) ?_
  simp only [Act.put, List.setIfInBounds_toArray, List.set_cons_zero, List.set_cons_succ]
  refine take 1 17 (v := .string (strB t)) rfl rfl (by kernel_rfl) (by kernel_rfl) (by kernel_rfl) rfl (fun W hW => exec_load rfl rfl (run_load1 (w := W) Tryz.underlying9 rfl (cellOf hW.1 rfl))) (by assumption) ?_
  simp only [Act.put, List.setIfInBounds_toArray, List.set_cons_zero, List.set_cons_succ]
  refine take 2 18 (v := .int .i64 (t.length : Int)) rfl rfl (by kernel_rfl) (by kernel_rfl) (by kernel_rfl) rfl (fun W hW => exec_lenB rfl rfl) (by assumption) ?_
  simp only [Act.put, List.setIfInBounds_toArray, List.set_cons_zero, List.set_cons_succ]
  refine take 3 19 (v := .pointer (some ⟨w.heap.size, 5, none⟩)) rfl rfl (by kernel_rfl) (by kernel_rfl) (by kernel_rfl) rfl (fun W hW => exec_fieldAddr rfl rfl (fa_value _ _ (by decide) W)) (by assumption) ?_
  simp only [Act.put, List.setIfInBounds_toArray, List.set_cons_zero, List.set_cons_succ]
  refine take 4 20 (v := .slice pl l.length cl) rfl rfl (by kernel_rfl) (by kernel_rfl) (by kernel_rfl) rfl (fun W hW => exec_load rfl rfl (run_load1 (w := W) Tryz.underlying24 rfl (cellOf hW.1 rfl))) (by assumption) ?_
  simp only [Act.put, List.setIfInBounds_toArray, List.set_cons_zero, List.set_cons_succ]
  refine take 5 21 (v := .int .i64 (l.length : Int)) rfl rfl (by kernel_rfl) (by kernel_rfl) (by kernel_rfl) rfl (fun W hW => exec_lenV rfl rfl) (by assumption) ?_
  simp only [Act.put, List.setIfInBounds_toArray, List.set_cons_zero, List.set_cons_succ]
  refine take 6 6 (v := .int .i64 1) rfl rfl (by kernel_rfl) (by kernel_rfl) (by kernel_rfl) rfl (fun W hW => exec_assign rfl rfl) (by assumption) ?_
  simp only [Act.put, List.setIfInBounds_toArray, List.set_cons_zero, List.set_cons_succ]
  refine take 7 7 (v := .int .i64 0) rfl rfl (by kernel_rfl) (by kernel_rfl) (by kernel_rfl) rfl (fun W hW => exec_assign rfl rfl) (by assumption) ?_
  simp only [Act.put, List.setIfInBounds_toArray, List.set_cons_zero, List.set_cons_succ]
  refine take 8 8 (v := .int .i64 (t.length : Int)) rfl rfl (by kernel_rfl) (by kernel_rfl) (by kernel_rfl) rfl (fun W hW => exec_assign rfl rfl) (by assumption) ?_
  simp only [Act.put, List.setIfInBounds_toArray, List.set_cons_zero, List.set_cons_succ]
  refine take 9 9 (v := .int .i64 (l.length : Int)) rfl rfl (by kernel_rfl) (by kernel_rfl) (by kernel_rfl) rfl (fun W hW => exec_assign rfl rfl) (by assumption) ?_
  simp only [Act.put, List.setIfInBounds_toArray, List.set_cons_zero, List.set_cons_succ]
  refine done (by kernel_rfl) ?_ _
  have HT0 := Lib.hid hU
  clear hU hT0
  go_wp2
  go_loopw [8, 10] (fun y i W => ∃ j : Nat, j ≤ ks.length ∧ i = .int .i64 (j : Int) ∧ y = .int .i64 ((t.length + ((ks.take j).map List.length).sum : Nat) : Int) ∧ Hid (OneB w W #[.int .i64 k, .bool b, .int .i64 n, .string (strB t), .slice pk ks.length ck, .slice pl l.length cl])) (fun _ i _ => ks.length - (intOf i).toNat)
  case atStart => exact ⟨0, Nat.zero_le _, rfl, by simp, HT0⟩
  case round =>
    clear HT0
    obtain ⟨j, hj, rfl, rfl, HT⟩ := hrel
    have hT1 := HT.out
    have px0 := cellOf (o := 0) hT1.1 rfl; have px1 := cellOf (o := 1) hT1.1 rfl; have px2 := cellOf (o := 2) hT1.1 rfl; have px3 := cellOf (o := 3) hT1.1 rfl; have px4 := cellOf (o := 4) hT1.1 rfl; have px5 := cellOf (o := 5) hT1.1 rfl
    have hsl := keysum_take ks j
    by_cases hlt : j < ks.length
    · have hlt1 : j + 1 ≤ ks.length := hlt
      obtain ⟨bk, ok, rfl, q0, ql⟩ := (HK.out.1.below hT1.2).get hlt
      have hsum : t.length + ((ks.take (j + 1)).map List.length).sum = t.length + ((ks.take j).map List.length).sum + ks[j].length := by
        rw [List.take_succ_eq_append_getElem hlt, List.map_append, List.sum_append]; simp; omega
      have hsl2 := keysum_take ks (j + 1)
      have z5 : ((t.length + ((ks.take j).map List.length).sum : Nat) : Int) + (ks[j].length : Int) ≤ 1099511627776 := by have := HK.out.2.2.2; omega
      have zs2 : (strB ks[j]).size = ks[j].length := rfl
      have HS := Lib.hid hsum
      generalize t.length + ((ks.take j).map List.length).sum = S at *
      clear hsl hsl2 hsum hT1
      go_wp2
      go_roundw
      case rel => exact ⟨j + 1, hlt1, by go_num, by rw [HS.out]; go_num, HT⟩
      case measure => simp [intOf]; omega
    · obtain rfl : j = ks.length := by omega
      rw [List.take_length]
      have zb : t.length + (ks.map List.length).sum + totVs l ≤ 1099511627776 := by have := HK.out.2.2.2; omega
      have HZB := Lib.hid zb
      generalize hY : t.length + (ks.map List.length).sum = Y at *
      have HY := Lib.hid hY
      have HT0 := HT
      clear hsl hT1 hY zb
      go_wp2
      go_loopw [6, 7, 8, 9, 11] (fun c d y g i W => ∃ j : Nat, j ≤ l.length ∧ i = .int .i64 (j : Int) ∧ c = .int .i64 ((1 + countVs (l.take j) : Nat) : Int) ∧ d = .int .i64 ((deepVs (l.take j) : Nat) : Int) ∧ y = .int .i64 ((Y + bytesVs (l.take j) : Nat) : Int) ∧ g = .int .i64 ((max l.length (longVs (l.take j)) : Nat) : Int) ∧ Hid (OneB w W #[.int .i64 k, .bool b, .int .i64 n, .string (strB t), .slice pk ks.length ck, .slice pl l.length cl])) (fun _ _ _ _ i _ => l.length - (intOf i).toNat)
      case atStart => exact ⟨0, Nat.zero_le _, rfl, by simp [countVs], by simp [deepVs], by simp [bytesVs], by simp [longVs], HT0⟩
      case round =>
        clear HT0 HT
        obtain ⟨j, hj, rfl, rfl, rfl, rfl, rfl, HT⟩ := hrel
        have hT1 := HT.out
        clear px0 px1 px2 px3 px4 px5
        have px0 := cellOf (o := 0) hT1.1 rfl; have px1 := cellOf (o := 1) hT1.1 rfl; have px2 := cellOf (o := 2) hT1.1 rfl; have px3 := cellOf (o := 3) hT1.1 rfl; have px4 := cellOf (o := 4) hT1.1 rfl; have px5 := cellOf (o := 5) hT1.1 rfl
        have hs0 := sizes_tots (l.take j)
        have htl := totVs_take l j
        by_cases hlt : j < l.length
        · have hlt1 : j + 1 ≤ l.length := hlt
          obtain ⟨g1, o1, pk1, ck1, pl1, cl1, rfl, ⟨a0, a1, a2, a3, a4, a5⟩, hv1⟩ := (HK.out.2.1.below hT1.2).at hlt
          have htl2 := totVs_take l (j + 1)
          have hss := sizes_tot l[j]
          have htk : l.take (j + 1) = l.take j ++ [l[j]] := List.take_succ_eq_append_getElem hlt
          rw [htk, totVs_append] at htl2
          have htv : totVs [l[j]] = totV l[j] := by simp [totVs]
          have hcall := HK.out.2.2.1 l[j] (List.getElem_mem hlt)
          have hn1 : countVs (l.take (j + 1)) = countVs (l.take j) + countV l[j] := by rw [htk, countVs_snoc]
          have hn2 : deepVs (l.take (j + 1)) = max (deepVs (l.take j)) (deepV l[j]) := by rw [htk, deepVs_snoc]
          have hn3 : bytesVs (l.take (j + 1)) = bytesVs (l.take j) + bytesV l[j] := by rw [htk, bytesVs_snoc]
          have hn4 : longVs (l.take (j + 1)) = max (longVs (l.take j)) (longV l[j]) := by rw [htk, longVs_snoc]
          have hzb := HZB.out
          have hq1 : 1 + countVs (l.take j) + countV l[j] ≤ 4398046511104 := by omega
          have hq2 : Y + bytesVs (l.take j) + bytesV l[j] ≤ 4398046511104 := by omega
          have HN := Lib.hid (And.intro hn1 (And.intro hn2 (And.intro hn3 hn4)))
          have hcv : totV l[j] ≤ 1099511627776 := by omega
          generalize l[j] = s1 at *
          generalize countVs (l.take j) = C at *
          generalize deepVs (l.take j) = D at *
          generalize bytesVs (l.take j) = B at *
          generalize longVs (l.take j) = G at *
          have hcl := hcall wr _ hcv hv1
          have HD := Lib.hid (And.intro hcl hT1)
          clear hn1 hn2 hn3 hn4 hss htl htl2 htv hs0 hzb hcall hv1 hT1 htk hcl
          go_wp2_with (go_at_call 52
                       (
                         refine HD.out.1.mono ?_
                         rintro e w5 ⟨rfl, hb5⟩
                         have hT5 := HD.out.2.below hb5
                         have HT5 := Lib.hid hT5
                         clear hb5 hT5))
          go_roundw
          case rel => exact ⟨j + 1, hlt1, by go_num, by rw [HN.out.1]; congr 1; omega, by rw [HN.out.2.1]; congr 1; omega, by rw [HN.out.2.2.1]; congr 1; omega, by rw [HN.out.2.2.2]; congr 1; omega, HT5⟩
          case measure => simp [intOf]; omega
        · obtain rfl : j = l.length := by omega
          rw [List.take_length] at *
          have HF := Lib.hid hT1.2
          have hzb := HZB.out
          have hd1 : deepVs l + 1 ≤ 4398046511104 := by omega
          clear hs0 htl hT1 hzb
          go_wp2
          refine bodyPost_ret (v := .tuple #[.int .i64 ((1 + countVs l : Nat) : Int), .int .i64 ((deepVs l + 1 : Nat) : Int), .int .i64 ((Y + bytesVs l : Nat) : Int), .int .i64 ((max l.length (longVs l) : Nat) : Int)]) (by simp [results, Tryz.results52, go_sem]) rfl ⟨by rw [HY.out], HF.out⟩
set_option maxRecDepth 100000 in
set_option maxHeartbeats 4000000 in
/-- What the document answers to Check. -/
theorem checkR_any {v : V} {w : World} {x : Array Value} (htot : totV v ≤ 1099511627776) (hx : VRd w v x) : Calls Tryz.prog 28 #[.agg x] w fun e w' => e = .returned (.int .i64 (checkV Lib.validD v)) ∧ Below w.heap.size w w' := by
  have hT := OneB.start w x
  have hmay := mayR_any v _ _ (hx.below hT.2)
  have hsz := fun (W : World) (hb : Below w.heap.size w W) => sizeR_any v W x htot (hx.below hb)
  have hst := sizes_tot v
  obtain ⟨pk, ck, pl, cl, rfl, _⟩ := hx.open
  have HM := Lib.hid hmay
  have HS := Lib.hid hsz
  have HT := Lib.hid hT
  have hc : checkV Lib.validD v = if mayV Lib.validD v then (if 64 < deepV v || 1048576 < bytesV v || 65536 < longV v then 3 else 0) else 110 := rfl
  have z1 : ((deepV v : Nat) : Int) ≤ 1099511627776 := by omega
  have z2 : ((bytesV v : Nat) : Int) ≤ 1099511627776 := by omega
  have z3 : ((longV v : Nat) : Int) ≤ 1099511627776 := by omega
  have HC := Lib.hid hc
  clear hmay hsz hT hx hst htot hc
  generalize checkV Lib.validD v = R at *
  generalize mayV Lib.validD v = M at *
  generalize deepV v = D at *
  generalize bytesV v = B at *
  generalize longV v = G at *
  cases M with
  | false =>
    have hR := HC.out
    have HR := Lib.hid hR
    clear hR
    go_enter Tryz.func28, Tryz.ntmps28
    go_wp2_with (go_at_call 68
                 (
                   refine HM.out.mono ?_
                   rintro e w1 ⟨rfl, hb⟩
                   have HT1 := Lib.hid (HT.out.below hb)
                   clear hb))
    go_ret
    exact ⟨ret_int HR.out.symm, HT1.out.2⟩
  | true =>
    go_enter Tryz.func28, Tryz.ntmps28
    go_wp2_with (first
      | (go_at_call 68
         (
           refine HM.out.mono ?_
           rintro e w1 ⟨rfl, hb⟩
           have HT1 := Lib.hid (HT.out.below hb)
           have HL1 := Lib.hid (get_val HT1.out.1)
           clear hb))
      | (refine wpList_load rfl _ _ _ rfl rfl HL1.out ?_)
      | (go_at_call 52
         (
           refine (HS.out _ HT1.out.2).mono ?_
           rintro e w2 ⟨rfl, hb⟩
           have HB := Lib.hid (below_trans HT1.out.2 hb)
           clear hb)))
    all_goals
      go_ret
      refine ⟨ret_int ?_, HB.out⟩
      have h := HC.out
      rw [if_pos trivial] at h
      rw [h]
      (repeat' split) <;> first | rfl | (simp only [Bool.or_eq_true, decide_eq_true_eq] at * <;> omega)
end Go.Proofs.YtnkaegdnjfpliaaGreatDoor

/-! The law's fine. -/
namespace Go.Proofs.YtnkaegdnjfpliaaGreatDoor
set_option linter.unusedSimpArgs false
set_option linter.unusedVariables false
open Go.RowKit

theorem beq_bne (k : Int) : (!(k != 0)) = (k == 0) := by
  cases h : (k == 0) <;> simp_all
def FineTo (l : List V) : Prop := fineL l = true
theorem FineTo.snoc {l : List V} {j : Nat} (hlt : j < l.length) (h : FineTo (l.take j)) (ho : checkV Lib.validD l[j] = 0) : FineTo (l.take (j + 1)) := by
  unfold FineTo fineL at *
  rw [List.take_succ_eq_append_getElem hlt, List.all_append, h]
  simp [okV, ho]
theorem fineL_not {l : List V} {j : Nat} (hlt : j < l.length) (ho : ¬ checkV Lib.validD l[j] = 0) : fineL l = false := by
  unfold fineL
  exact List.all_eq_false.2 ⟨l[j], List.getElem_mem hlt, by simp [okV, ho]⟩
set_option maxRecDepth 100000 in
set_option maxHeartbeats 4000000 in
theorem finel_any {w : World} {p : Option Addr} {c : Nat} {l : List V} (hl : LRd w p c l) (ht : totVs l ≤ 1099511627776) :
    Calls Tryz.prog 18 #[.slice p l.length c] w fun e w' => e = .returned (.bool (fineL l)) ∧ Below w.heap.size w w' := by
  have z2 : (l.length : Int) ≤ 140737488355328 := by have := hl.1.2.1; omega
  have HK := Lib.hid (And.intro hl ht)
  clear hl ht
  go_enter Tryz.func18, Tryz.ntmps18
  go_wp2
  go_loopw [3] (fun i W => ∃ j : Nat, j ≤ l.length ∧ i = .int .i64 (j : Int) ∧ Hid (FineTo (l.take j)) ∧ Hid (Below w.heap.size w W)) (fun i _ => l.length - (intOf i).toNat)
  case atStart => exact ⟨0, Nat.zero_le _, rfl, Lib.hid rfl, Lib.hid (Below.refl _ _)⟩
  case round =>
    obtain ⟨j, hj, rfl, HQ, HB⟩ := hrel
    by_cases hlt : j < l.length
    · have hlt1 : j + 1 ≤ l.length := hlt
      obtain ⟨g1, o1, pk1, ck1, pl1, cl1, rfl, ⟨a0, a1, a2, a3, a4, a5⟩, hv1⟩ := (HK.out.1.below HB.out).at hlt
      have hcall := checkR_any (Nat.le_trans (totVs_mem (List.getElem_mem hlt)) HK.out.2) hv1
      have hok := fun h => FineTo.snoc hlt HQ.out h
      have hno := fun h => fineL_not hlt h
      have HD := Lib.hid (And.intro hcall (And.intro hok (And.intro hno HB.out)))
      clear hcall hok hno hv1
      generalize l[j] = s1 at *
      by_cases h0 : checkV Lib.validD s1 = 0
      · have hb : (checkV Lib.validD s1 != 0) = false := by simp [h0]
        generalize hK : checkV Lib.validD s1 = K at *
        go_wp2_with (go_at_call 28
                     (
                       refine HD.out.1.mono ?_
                       rintro e w3 ⟨rfl, hb3⟩
                       have HG := Lib.hid (below_trans HD.out.2.2.2 hb3)
                       clear hb3))
        go_roundw
        case rel => exact ⟨j + 1, hlt1, by go_num, Lib.hid (HD.out.2.1 h0), HG⟩
        case measure => simp [intOf]; omega
      · have hb : (checkV Lib.validD s1 != 0) = true := by simp [h0]
        generalize hK : checkV Lib.validD s1 = K at *
        go_wp2_with (go_at_call 28
                     (
                       refine HD.out.1.mono ?_
                       rintro e w3 ⟨rfl, hb3⟩
                       have HG := Lib.hid (below_trans HD.out.2.2.2 hb3)
                       clear hb3))
        go_ret
        exact ⟨ret_bool (HD.out.2.2.1 h0).symm, HG.out⟩
    · obtain rfl : j = l.length := by omega
      have hQ : FineTo (l.take l.length) := HQ.out
      rw [List.take_length] at hQ
      have HQ2 := Lib.hid (show fineL l = true from hQ)
      clear hQ
      go_wp2
      go_ret
      exact ⟨ret_bool HQ2.out.symm, HB.out⟩
end Go.Proofs.YtnkaegdnjfpliaaGreatDoor
