/- Values in memory of their own. -/
import Derived.Test.YtnkaegdnjfpliaaGreatDoorVeq
namespace Go.Proofs.YtnkaegdnjfpliaaGreatDoor
set_option linter.unusedSimpArgs false
set_option linter.unusedVariables false
open Go.RowKit

/-- A row of cells of its own, in a block of some. -/
def OwnsP (w : World) (P : Nat → Prop) (e : TypeId) (size : Nat) (v : Value) (n : Nat) (xs : List Value) : Prop := w.ownsRow 0 e size v n xs ∧ ∀ g, v.ownBlock = some g → P g
section
variable {w w' : World} {P P' : Nat → Prop} {e : TypeId} {size : Nat} {v : Value} {n : Nat} {xs : List Value}
theorem OwnsP.keep (h : OwnsP w P e size v n xs) (hk : ∀ b, P b → b < w.heap.size → w'.heap[b]? = w.heap[b]?) : OwnsP w' P e size v n xs :=
  ⟨ownsRow_heap h.1 fun g hg => hk g (h.2 g hg) (h.1.lt g hg).2, h.2⟩
theorem OwnsP.imp (h : OwnsP w P e size v n xs) (hp : ∀ b, b < w.heap.size → P b → P' b) : OwnsP w P' e size v n xs := ⟨h.1, fun g hg => hp g (h.1.lt g hg).2 (h.2 g hg)⟩
theorem OwnsP.of_base {base : Nat} (h : w.ownsRow base e size v n xs) : OwnsP w (fun b => base ≤ b) e size v n xs := by
  refine ⟨⟨h.1, ?_⟩, fun g hg => (h.lt g hg).1⟩
  rcases h.2 with hn | ⟨g, cap, cur, rfl, h1, rest⟩
  · exact .inl hn
  · exact .inr ⟨g, cap, cur, rfl, Nat.zero_le _, rest⟩
end
mutual
/-- Six cells' values are a value, in memory of blocks of P. -/
def VOwn (w : World) (P : Nat → Prop) : V → Array Value → Prop
  | .mk k b n t ks l, cs => ∃ vk vl xs, cs = #[.int .i64 k, .bool b, .int .i64 n, .string (strB t), vk, vl] ∧ OwnsP w P 9 1 vk ks.length (ks.map strV) ∧ OwnsP w P 26 6 vl l.length (xs.flatMap Array.toList) ∧ VOwns w P l xs
def VOwns (w : World) (P : Nat → Prop) : List V → List (Array Value) → Prop
  | [], xs => xs = []
  | v :: r, xs => ∃ x q, xs = x :: q ∧ VOwn w P v x ∧ VOwns w P r q
end
/-- Values in memory of their own, at a slice. -/
def LOwn (w : World) (P : Nat → Prop) (vl : Value) (l : List V) : Prop := ∃ xs, OwnsP w P 26 6 vl l.length (xs.flatMap Array.toList) ∧ VOwns w P l xs
theorem VOwn_iff {w : World} {P : Nat → Prop} {k : Int} {b : Bool} {n : Int} {t : List UInt8} {ks : List (List UInt8)} {l : List V} {cs : Array Value} : VOwn w P (.mk k b n t ks l) cs ↔
    ∃ vk vl, cs = #[.int .i64 k, .bool b, .int .i64 n, .string (strB t), vk, vl] ∧ OwnsP w P 9 1 vk ks.length (ks.map strV) ∧ LOwn w P vl l := by
  rw [VOwn]
  constructor
  · rintro ⟨vk, vl, xs, h1, h2, h3, h4⟩; exact ⟨vk, vl, h1, h2, xs, h3, h4⟩
  · rintro ⟨vk, vl, h1, h2, xs, h3, h4⟩; exact ⟨vk, vl, xs, h1, h2, h3, h4⟩
theorem VOwns_snoc {w : World} {P : Nat → Prop} : ∀ {l : List V} {xs : List (Array Value)} {v : V} {x : Array Value}, VOwns w P l xs → VOwn w P v x → VOwns w P (l ++ [v]) (xs ++ [x]) := by
  intro l
  induction l with
  | nil =>
    intro xs v x h hv
    rw [VOwns] at h; subst h
    exact ⟨x, [], rfl, hv, rfl⟩
  | cons a r ih =>
    intro xs v x h hv
    obtain ⟨y, q, rfl, h1, h2⟩ := h
    exact ⟨y, q ++ [x], rfl, h1, ih h2 hv⟩
theorem VOwns_get {w : World} {P : Nat → Prop} : ∀ {l : List V} {xs : List (Array Value)}, VOwns w P l xs → ∀ (j : Nat) (v : V), l[j]? = some v → ∃ x, xs[j]? = some x ∧ VOwn w P v x := by
  intro l
  induction l with
  | nil => intro xs _ j v hv; simp at hv
  | cons a r ih =>
    intro xs h j v hv
    obtain ⟨y, q, rfl, h1, h2⟩ := h
    cases j with
    | zero => simp only [List.getElem?_cons_zero, Option.some.injEq] at hv; subst hv; exact ⟨y, rfl, h1⟩
    | succ j => exact ih h2 j v (by simpa using hv)
theorem VOwn.size6 {w : World} {P : Nat → Prop} {v : V} {x : Array Value} (h : VOwn w P v x) : x.size = 6 := by
  cases v; obtain ⟨vk, vl, rfl, _⟩ := VOwn_iff.1 h; rfl
/-- What is kept where no block of its own is turned. -/
theorem VOwn.keep {w w' : World} {P : Nat → Prop} (hk : ∀ b, P b → b < w.heap.size → w'.heap[b]? = w.heap[b]?) : ∀ {v : V} {x : Array Value}, VOwn w P v x → VOwn w' P v x := by
  intro v
  refine V.ind (P := fun v => ∀ {x : Array Value}, VOwn w P v x → VOwn w' P v x) (fun k b n t ks l ih x h => ?_) v
  obtain ⟨vk, vl, e, h1, xs, h2, h3⟩ := VOwn_iff.1 h
  refine VOwn_iff.2 ⟨vk, vl, e, h1.keep hk, xs, h2.keep hk, ?_⟩
  clear h h1 h2 e
  induction l generalizing xs with
  | nil => exact h3
  | cons a r ihr =>
    obtain ⟨y, q, rfl, g1, g2⟩ := h3
    exact ⟨y, q, rfl, ih a (by simp) g1, ihr (fun v hv => ih v (by simp [hv])) q g2⟩
theorem VOwns.keep {w w' : World} {P : Nat → Prop} (hk : ∀ b, P b → b < w.heap.size → w'.heap[b]? = w.heap[b]?) : ∀ {l : List V} {xs : List (Array Value)}, VOwns w P l xs → VOwns w' P l xs := by
  intro l
  induction l with
  | nil => intro xs h; exact h
  | cons a r ih =>
    intro xs h
    obtain ⟨y, q, rfl, g1, g2⟩ := h
    exact ⟨y, q, rfl, g1.keep hk, ih g2⟩
theorem VOwn.below {w w' : World} {P : Nat → Prop} {v : V} {x : Array Value} (h : VOwn w P v x) (g : Below w.heap.size w w') : VOwn w' P v x := h.keep fun b _ hb => g.block b hb
theorem VOwns.below {w w' : World} {P : Nat → Prop} {l : List V} {xs : List (Array Value)} (h : VOwns w P l xs) (g : Below w.heap.size w w') : VOwns w' P l xs := h.keep fun b _ hb => g.block b hb
theorem LOwn.below {w w' : World} {P : Nat → Prop} {vl : Value} {l : List V} (h : LOwn w P vl l) (g : Below w.heap.size w w') : LOwn w' P vl l := by
  obtain ⟨xs, h1, h2⟩ := h
  exact ⟨xs, h1.keep fun b _ hb => g.block b hb, h2.below g⟩
theorem VOwn.imp {w : World} {P P' : Nat → Prop} (hp : ∀ b, b < w.heap.size → P b → P' b) : ∀ {v : V} {x : Array Value}, VOwn w P v x → VOwn w P' v x := by
  intro v
  refine V.ind (P := fun v => ∀ {x : Array Value}, VOwn w P v x → VOwn w P' v x) (fun k b n t ks l ih x h => ?_) v
  obtain ⟨vk, vl, e, h1, xs, h2, h3⟩ := VOwn_iff.1 h
  refine VOwn_iff.2 ⟨vk, vl, e, h1.imp hp, xs, h2.imp hp, ?_⟩
  clear h h1 h2 e
  induction l generalizing xs with
  | nil => exact h3
  | cons a r ihr =>
    obtain ⟨y, q, rfl, g1, g2⟩ := h3
    exact ⟨y, q, rfl, ih a (by simp) g1, ihr (fun v hv => ih v (by simp [hv])) q g2⟩
theorem VOwns.imp {w : World} {P P' : Nat → Prop} (hp : ∀ b, b < w.heap.size → P b → P' b) : ∀ {l : List V} {xs : List (Array Value)}, VOwns w P l xs → VOwns w P' l xs := by
  intro l
  induction l with
  | nil => intro xs h; exact h
  | cons a r ih =>
    intro xs h
    obtain ⟨y, q, rfl, g1, g2⟩ := h
    exact ⟨y, q, rfl, g1.imp hp, ih g2⟩
theorem LOwn.imp {w : World} {P P' : Nat → Prop} (hp : ∀ b, b < w.heap.size → P b → P' b) {vl : Value} {l : List V} (h : LOwn w P vl l) : LOwn w P' vl l := by
  obtain ⟨xs, h1, h2⟩ := h
  exact ⟨xs, h1.imp hp, h2.imp hp⟩
/-- Owned strings are read. -/
theorem owned_rdS {w : World} {P : Nat → Prop} {v : Value} {l : List (List UInt8)} (h : OwnsP w P 9 1 v l.length (l.map strV)) (h1 : l.length ≤ 140737488355328) (h2 : ∀ s ∈ l, s.length ≤ 140737488355328) : ∃ p c, v = .slice p l.length c ∧ RdS w p c l := by
  have hc := fun g => h.1.cells (g := g)
  rcases h.1.2 with ⟨rfl, h0⟩ | ⟨g, cap, cur, rfl, _, hg, hnc, hcm, _⟩
  · have : l = [] := List.eq_nil_of_length_eq_zero h0
    subst this
    exact ⟨none, 0, rfl, Nat.le_refl _, by simp, fun _ => rfl, h2, fun ad h => by cases h⟩
  · refine ⟨some ⟨g, 0, none⟩, cap, rfl, hnc, ⟨h1, by unfold maxLen at hcm; omega⟩, fun h => (by cases h), h2, fun ad had => ?_⟩
    cases had
    refine ⟨fun _ => rfl, fun i s hs => ?_⟩
    have := hc g rfl i (strV s) (by simp [hs])
    rw [addr_add] at this
    simpa [strV] using this
theorem flat_six {xs : List (Array Value)} (h6 : ∀ x ∈ xs, x.size = 6) : ∀ (j : Nat) (x : Array Value), xs[j]? = some x → ∀ i, i < 6 → (xs.flatMap Array.toList)[j * 6 + i]? = x[i]? := by
  induction xs with
  | nil => intro j x h; simp at h
  | cons a r ih =>
    intro j x h i hi
    have ha := h6 a (by simp)
    rw [List.flatMap_cons]
    cases j with
    | zero =>
      simp only [List.getElem?_cons_zero, Option.some.injEq] at h
      subst h
      rw [Nat.zero_mul, Nat.zero_add, List.getElem?_append_left (by simp [ha, hi])]
      simp
    | succ j =>
      have hj : a.toList.length ≤ (j + 1) * 6 + i := by simp [ha]; omega
      rw [List.getElem?_append_right hj]
      have e : (j + 1) * 6 + i - a.toList.length = j * 6 + i := by simp [ha]; omega
      rw [e]
      exact ih (fun x hx => h6 x (by simp [hx])) j x (by simpa using h) i hi
theorem VOwns.six {w : World} {P : Nat → Prop} : ∀ {l : List V} {xs : List (Array Value)}, VOwns w P l xs → ∀ x ∈ xs, x.size = 6 := by
  intro l
  induction l with
  | nil => intro xs h; rw [VOwns] at h; subst h; simp
  | cons a r ih =>
    intro xs h x hx
    obtain ⟨y, q, rfl, g1, g2⟩ := h
    rcases List.mem_cons.1 hx with rfl | hx
    · exact g1.size6
    · exact ih g2 x hx
/-- Owned values are read. -/
theorem VOwn.rd {w : World} {P : Nat → Prop} : ∀ {v : V} {x : Array Value}, VOwn w P v x → totV v ≤ 1000000 → VRd w v x := by
  intro v
  refine V.ind (P := fun v => ∀ {x : Array Value}, VOwn w P v x → totV v ≤ 1000000 → VRd w v x) (fun k b n t ks l ih x h ht => ?_) v
  rw [totV_mk] at ht
  obtain ⟨vk, vl, rfl, h1, xs, h2, h3⟩ := VOwn_iff.1 h
  obtain ⟨pk, ck, rfl, hk⟩ := owned_rdS h1 (by omega) (fun s hs => by have := sum_mem hs; omega)
  have hlen := totVs_length l
  have h6 := h3.six
  have hc := fun g => h2.1.cells (g := g)
  have hget := VOwns_get h3
  rcases h2.1.2 with ⟨rfl, h0⟩ | ⟨g, cap, cur, rfl, _, hg, hnc, hcm, _⟩
  · have : l = [] := List.eq_nil_of_length_eq_zero h0
    subst this
    exact VRd_iff.2 ⟨pk, ck, none, 0, rfl, by omega, hk, ⟨Nat.le_refl _, by simp, fun _ => rfl⟩, fun ad h => by cases h⟩
  · refine VRd_iff.2 ⟨pk, ck, some ⟨g, 0, none⟩, cap, rfl, by omega, hk, ⟨hnc, ⟨by omega, by unfold maxLen at hcm; omega⟩, fun h => by cases h⟩, fun ad had => ?_⟩
    cases had
    refine ⟨fun _ => rfl, fun j v hv => ?_⟩
    obtain ⟨x, hx, hown⟩ := hget j v hv
    have hr := ih v (List.mem_of_getElem? hv) hown (by have := totVs_mem (List.mem_of_getElem? hv); omega)
    obtain ⟨pk2, ck2, pl2, cl2, rfl, _⟩ := hr.open
    have cell : ∀ i u, i < 6 → (#[Value.int .i64 v.kind, .bool v.b, .int .i64 v.n, .string (strB v.text), .slice pk2 v.keys.length ck2, .slice pl2 v.list.length cl2] : Array Value)[i]? = some u → w.cell? ⟨g, 0 + j * 6 + i, none⟩ = some u := by
      intro i u hi hu
      have := hc g rfl (j * 6 + i) u (by rw [flat_six h6 j _ hx i hi]; exact hu)
      rw [addr_add] at this
      rw [Nat.zero_add] at this ⊢
      exact this
    exact ⟨_, ⟨_, _, _, _, _, _, rfl, cell 0 _ (by omega) rfl, cell 1 _ (by omega) rfl, cell 2 _ (by omega) rfl, cell 3 _ (by omega) rfl, cell 4 _ (by omega) rfl, cell 5 _ (by omega) rfl⟩, hr⟩

theorem LOwn.rd {w : World} {P : Nat → Prop} {vl : Value} {l : List V} (h : LOwn w P vl l) (ht : totVs l ≤ 900000) : ∃ p c, vl = .slice p l.length c ∧ LRd w p c l := by
  have h2 : VOwn w P (.mk 0 false 0 [] [] l) #[.int .i64 0, .bool false, .int .i64 0, .string (strB []), .slice none 0 0, vl] := VOwn_iff.2 ⟨.slice none 0 0, vl, rfl, ⟨⟨by simp, .inl ⟨rfl, rfl⟩⟩, fun g hg => by simp [Value.ownBlock] at hg⟩, h⟩
  have h3 := h2.rd (by rw [totV_mk]; simp; omega)
  obtain ⟨pk, ck, pl, cl, e, _, _, hl⟩ := VRd_iff.1 h3
  have e2 := congrArg (fun (a : Array Value) => a[5]?) e
  simp at e2
  exact ⟨pl, cl, e2, hl⟩
end Go.Proofs.YtnkaegdnjfpliaaGreatDoor
