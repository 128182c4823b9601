/- Texts that the proof shares (each declaration is a lemma of this layer). -/
import Derived.Test.YthdfedfholmbmaaGreatDoorZGbacka
import Derived.Laws.BitsAllLaws
import Derived.Deep.WholeRow
set_option linter.unusedSimpArgs false
set_option linter.unusedVariables false
set_option maxRecDepth 100000
set_option maxHeartbeats 64000000
namespace Go.Proofs.YthdfedfholmbmaaGreatDoor
open Go.RowKit
structure GT (P : Program) (t T : TypeId) (K : Nat) : Prop where
  app : ∀ {w : World} {vl : Value} {n : Nat} {ys : List Value}, w.ownsRow 0 t K vl n ys → ∀ {g : Nat} {x : Array Value}, x.size = K → (∀ u ∈ x.toList, u.oneCell' = true) → w.heap[g]? = some (.cells x t (0, 0)) → n ≤ 1000000 → ∀ ty : TypeId,
    ∃ v' w', (Builtin.append_ #[T, T] ty #[vl, .slice (some ⟨g, 0, none⟩) 1 1]).run P w = .ok v' w' ∧ w'.ownsRow 0 t K v' (n + 1) (ys ++ x.toList) ∧ Touch (fun b => vl.ownBlock = some b) w w' ∧
      (v'.ownBlock = vl.ownBlock ∨ v'.ownBlock = some w.heap.size) ∧ w.heap.size ≤ w'.heap.size
theorem GT.of {P : Program} {t T : TypeId} {K bytes : Nat} {z : Value} (hT : P.underlying T = some (.slice t)) (h : ∃ i, P.info? t = some i ∧ i.zero = some z ∧ i.size = K ∧ i.bytes = bytes) (hz : z.cells.size = K) (hb : bytes ≤ 100000000) : GT P t T K := by
  refine ⟨?_⟩
  intro w vl n ys hown g x hK h1 hc hn ty
  obtain ⟨i, i1, i2, i3, i4⟩ := h
  exact append_law (P := P) (w := w) T ty t i z K bytes hT i1 i2 i3 i4 hz vl n ys hown ⟨g, 0, none⟩ 1 1 x.toList (by simp [hK]) (fun j u hu => by
    rw [addr_add, Nat.zero_add]; exact cellOf hc (by simpa using hu)) h1 (by unfold maxLen; omega) (by
      have : (n + 1) * bytes ≤ 1000001 * 100000000 := Nat.mul_le_mul (by omega) hb
      omega)
structure EL {α : Type} (E : World → (Nat → Prop) → α → Array Value → Prop) (K : Nat) : Prop where
  keep : ∀ {w w' : World} {P : Nat → Prop} {x : α} {a : Array Value}, (∀ b, P b → b < w.heap.size → w'.heap[b]? = w.heap[b]?) → E w P x a → E w' P x a
  imp : ∀ {w : World} {P P' : Nat → Prop} {x : α} {a : Array Value}, (∀ b, b < w.heap.size → P b → P' b) → E w P x a → E w P' x a
  size : ∀ {w : World} {P : Nat → Prop} {x : α} {a : Array Value}, E w P x a → a.size = K
  ones : ∀ {w : World} {P : Nat → Prop} {x : α} {a : Array Value}, E w P x a → ∀ u ∈ a.toList, u.oneCell' = true
theorem el_val : EL VOwn 6 := ⟨fun h => VOwn.keep h, fun h => VOwn.imp h, VOwn.size6, VOwn.ones⟩
section
variable {α : Type} {E : World → (Nat → Prop) → α → Array Value → Prop} {K : Nat} {Pg : Program} {t T : TypeId} {w w' W W1 : World} {P P' : Nat → Prop} {l m : List α} {xs ys : List (Array Value)}
def GOwns (E : World → (Nat → Prop) → α → Array Value → Prop) (w : World) (P : Nat → Prop) (l : List α) (xs : List (Array Value)) : Prop := xs.length = l.length ∧ ∀ (j : Nat) (v : α), l[j]? = some v → ∃ x, xs[j]? = some x ∧ E w P v x
theorem GOwns.nil : GOwns E w P [] [] := ⟨rfl, fun j v h => by simp at h⟩
theorem GOwns.snoc {v : α} {x : Array Value} (h : GOwns E w P l xs) (hx : E w P v x) : GOwns E w P (l ++ [v]) (xs ++ [x]) := by
  refine ⟨by simp [h.1], fun j u hu => ?_⟩
  by_cases hj : j < l.length
  · rw [List.getElem?_append_left hj] at hu
    obtain ⟨y, h1, h2⟩ := h.2 j u hu
    exact ⟨y, by rw [List.getElem?_append_left (by rw [h.1]; exact hj)]; exact h1, h2⟩
  · rw [List.getElem?_append_right (by omega)] at hu
    have hj2 : j - l.length = 0 := by
      by_cases e : j - l.length = 0
      · exact e
      · rw [List.getElem?_eq_none (by simp; omega)] at hu; cases hu
    rw [hj2] at hu
    cases hu
    exact ⟨x, by rw [List.getElem?_append_right (by rw [h.1]; omega), h.1, hj2]; rfl, hx⟩
theorem GOwns.mem (h : GOwns E w P l xs) {x : Array Value} (hx : x ∈ xs) : ∃ v ∈ l, E w P v x := by
  obtain ⟨j, hj, rfl⟩ := List.getElem_of_mem hx
  have hj2 : j < l.length := by rw [← h.1]; exact hj
  obtain ⟨y, h1, h2⟩ := h.2 j l[j] (List.getElem?_eq_getElem hj2)
  rw [List.getElem?_eq_getElem hj] at h1
  cases h1
  exact ⟨_, List.getElem_mem hj2, h2⟩
theorem GOwns.keep (hE : EL E K) (hk : ∀ b, P b → b < w.heap.size → w'.heap[b]? = w.heap[b]?) (h : GOwns E w P l xs) : GOwns E w' P l xs :=
  ⟨h.1, fun j v hv => by obtain ⟨x, h1, h2⟩ := h.2 j v hv; exact ⟨x, h1, hE.keep hk h2⟩⟩
theorem GOwns.imp (hE : EL E K) (hp : ∀ b, b < w.heap.size → P b → P' b) (h : GOwns E w P l xs) : GOwns E w P' l xs :=
  ⟨h.1, fun j v hv => by obtain ⟨x, h1, h2⟩ := h.2 j v hv; exact ⟨x, h1, hE.imp hp h2⟩⟩
theorem GOwns.below (hE : EL E K) (h : GOwns E w P l xs) (g : Below w.heap.size w w') : GOwns E w' P l xs := h.keep hE fun b _ hb => g.block b hb
def GOwn (E : World → (Nat → Prop) → α → Array Value → Prop) (t : TypeId) (K : Nat) (w : World) (P : Nat → Prop) (vl : Value) (l : List α) : Prop := ∃ xs, OwnsP w P t K vl l.length (xs.flatMap Array.toList) ∧ GOwns E w P l xs
theorem GOwn.keep {vl : Value} (hE : EL E K) (hk : ∀ b, P b → b < w.heap.size → w'.heap[b]? = w.heap[b]?) (h : GOwn E t K w P vl l) : GOwn E t K w' P vl l := by
  obtain ⟨xs, h1, h2⟩ := h; exact ⟨xs, h1.keep hk, h2.keep hE hk⟩
theorem GOwn.imp {vl : Value} (hE : EL E K) (hp : ∀ b, b < w.heap.size → P b → P' b) (h : GOwn E t K w P vl l) : GOwn E t K w P' vl l := by
  obtain ⟨xs, h1, h2⟩ := h; exact ⟨xs, h1.imp hp, h2.imp hE hp⟩
theorem GOwn.below {vl : Value} (hE : EL E K) (h : GOwn E t K w P vl l) (g : Below w.heap.size w w') : GOwn E t K w' P vl l := h.keep hE fun b _ hb => g.block b hb
theorem GOwn.nil : GOwn E t K w P (.slice none 0 0) ([] : List α) := ⟨[], ⟨⟨by simp, .inl ⟨rfl, rfl⟩⟩, fun g hg => by simp [Value.ownBlock] at hg⟩, .nil⟩
theorem GOwn.slice {vl : Value} (h : GOwn E t K w P vl l) : ∃ p c, vl = .slice p l.length c := by obtain ⟨xs, h1, _⟩ := h; exact slices_of h1
theorem own_one {t : TypeId} {vl : Value} {n : Nat} {zs : List Value} (h : OwnsP w P t K vl n zs) : vl.oneCell' = true := by
  rcases h.1.2 with ⟨rfl, _⟩ | ⟨g, cap, cur, rfl, _⟩ <;> rfl
def GInv (E : World → (Nat → Prop) → α → Array Value → Prop) (t : TypeId) (K : Nat) (w W : World) (ov : Value) (m : List α) : Prop := ∃ xs, OwnsP W (fun b => w.heap.size ≤ b) t K ov m.length (xs.flatMap Array.toList) ∧ GOwns E W (fun b => w.heap.size ≤ b ∧ ov.ownBlock ≠ some b) m xs ∧ Below w.heap.size w W
theorem GInv.b {ov : Value} (h : GInv E t K w W ov l) : Below w.heap.size w W := by obtain ⟨_, _, _, h⟩ := h; exact h
theorem GInv.below (hE : EL E K) {W' : World} {ov : Value} (h : GInv E t K w W ov l) (g : Below W.heap.size W W') : GInv E t K w W' ov l := by
  obtain ⟨xs, h1, h2, h3⟩ := h
  exact ⟨xs, h1.keep fun b _ hb => g.block b hb, h2.below hE g, below_trans h3 g⟩
theorem GInv.kept (hE : EL E K) {W' : World} {ov : Value} (h : GInv E t K w W ov l) (g : ∀ b, w.heap.size ≤ b → b < W.heap.size → W'.heap[b]? = W.heap[b]?) (hb : Below w.heap.size w W') : GInv E t K w W' ov l := by
  obtain ⟨xs, h1, h2, h3⟩ := h
  exact ⟨xs, h1.keep fun b hb h => g b hb h, h2.keep hE fun b hb h => g b hb.1 h, hb⟩
theorem GInv.start (h : Below w.heap.size w W) : GInv E t K w W (.slice none 0 0) ([] : List α) := ⟨[], ⟨⟨by simp, .inl ⟨rfl, rfl⟩⟩, fun g hg => by simp [Value.ownBlock] at hg⟩, .nil, h⟩
theorem GInv.own (hE : EL E K) {ov : Value} (h : GInv E t K w W ov l) : GOwn E t K W (fun b => w.heap.size ≤ b) ov l := by
  obtain ⟨xs, h1, h2, h3⟩ := h
  exact ⟨xs, h1, h2.imp hE fun b _ hb => hb.1⟩
theorem GInv.slice {ov : Value} (h : GInv E t K w W ov l) : ∃ p c, ov = .slice p l.length c := by obtain ⟨xs, h1, _⟩ := h; exact slices_of h1
theorem GInv.step (hE : EL E K) (hG : GT Pg t T K) {ov : Value} {v : α} {x : Array Value} {base : Nat} (h : GInv E t K w W ov m) (hbase : W.heap.size ≤ base) (hb : ∀ b, w.heap.size ≤ b → b < W.heap.size → W1.heap[b]? = W.heap[b]?) (hbw : Below w.heap.size w W1) (hsz : W.heap.size ≤ W1.heap.size) (hx : E W1 (fun b => base ≤ b) v x) (hm : m.length ≤ 1000000) (ty : TypeId) :
    ∃ v' W2, (Builtin.append_ #[T, T] ty #[ov, .slice (some ⟨W1.heap.size, 0, none⟩) 1 1]).run Pg (W1.alloc (.cells x t)) = .ok v' W2 ∧ GInv E t K w W2 v' (m ++ [v]) ∧ Touch (fun b => ov.ownBlock = some b) (W1.alloc (.cells x t)) W2 := by
  have hnew : Below W1.heap.size W1 (W1.alloc (.cells x t)) := below_new _
  have hlt : ∀ g, ov.ownBlock = some g → g < W.heap.size := by
    obtain ⟨xs, h1, _⟩ := h
    exact fun g hg => (h1.1.lt g hg).2
  obtain ⟨xs, h1, h2, h3⟩ := (h.kept hE hb hbw).below hE hnew
  have hx' : E (W1.alloc (.cells x t)) (fun b => base ≤ b) v x := hE.keep (fun b _ hb => hnew.block b hb) hx
  have hwW : w.heap.size ≤ W.heap.size := by obtain ⟨_, _, _, h⟩ := h; exact h.size
  obtain ⟨v', W2, a1, a2, a3, a4, a5⟩ := hG.app h1.1 (hE.size hx) (hE.ones hx) (heap_alloc_new W1 _) hm ty
  refine ⟨v', W2, a1, ⟨xs ++ [x], ⟨?_, fun g hg => ?_⟩, ?_, ?_⟩, a3⟩
  · rw [List.flatMap_append, List.length_append]
    simpa using a2
  · rcases a4 with e | e
    · exact h1.2 g (e.symm.trans hg)
    · rw [e] at hg
      cases hg
      have := h3.size
      omega
  · have hs : GOwns E (W1.alloc (.cells x t)) (fun b => w.heap.size ≤ b ∧ ov.ownBlock ≠ some b ∧ b < (W1.alloc (.cells x t)).heap.size) (m ++ [v]) (xs ++ [x]) :=
      (h2.imp hE fun b hb hp => ⟨hp.1, hp.2, hb⟩).snoc (hE.imp (fun b hb hp => ⟨by omega, fun e => by have := hlt b e; omega, hb⟩) hx')
    refine (hs.keep hE (w' := W2) fun b hp hb => a3.block b hb hp.2.1).imp hE fun b _ hp => ⟨hp.1, ?_⟩
    rcases a4 with e | e
    · rw [e]; exact hp.2.1
    · rw [e]; intro e2; cases e2; have := hp.2.2; omega
  · exact a3.below h3 (fun b hb e => by have := h1.2 b e; omega) h3.size
def GIn (E : World → (Nat → Prop) → α → Array Value → Prop) (t : TypeId) (K : Nat) (P : Nat → Prop) (W : World) (ov : Value) (m : List α) : Prop := ∃ xs, OwnsP W P t K ov m.length (xs.flatMap Array.toList) ∧ GOwns E W (fun b => P b ∧ ov.ownBlock ≠ some b) m xs
theorem GIn.start {P : Nat → Prop} : GIn E t K P W (.slice none 0 0) ([] : List α) := ⟨[], ⟨⟨by simp, .inl ⟨rfl, rfl⟩⟩, fun g hg => by simp [Value.ownBlock] at hg⟩, .nil⟩
theorem GIn.kept (hE : EL E K) {P P' : Nat → Prop} {W' : World} {ov : Value} (h : GIn E t K P W ov l) (g : ∀ b, P b → b < W.heap.size → W'.heap[b]? = W.heap[b]?) (hP : ∀ b, b < W.heap.size → P b → P' b) : GIn E t K P' W' ov l := by
  obtain ⟨xs, h1, h2⟩ := h
  exact ⟨xs, (h1.imp (P' := fun b => P b ∧ P' b) (fun b hb hp => ⟨hp, hP b hb hp⟩) |>.keep (fun b hb h => g b hb.1 h)).imp (fun b _ hb => hb.2),
    ((h2.imp hE (P' := fun b => P b ∧ P' b ∧ ov.ownBlock ≠ some b) (fun b hb hp => ⟨hp.1, hP b hb hp.1, hp.2⟩)).keep hE (fun b hb h => g b hb.1 h)).imp hE (fun b _ hb => hb.2)⟩
theorem GIn.own (hE : EL E K) {P : Nat → Prop} {ov : Value} (h : GIn E t K P W ov l) : GOwn E t K W P ov l := by
  obtain ⟨xs, h1, h2⟩ := h
  exact ⟨xs, h1, h2.imp hE fun b _ hb => hb.1⟩
theorem GIn.slice {P : Nat → Prop} {ov : Value} (h : GIn E t K P W ov l) : ∃ p c, ov = .slice p l.length c := by obtain ⟨xs, h1, _⟩ := h; exact slices_of h1
theorem GIn.lt {P : Nat → Prop} {ov : Value} (h : GIn E t K P W ov l) : ∀ g, ov.ownBlock = some g → g < W.heap.size ∧ P g := by
  obtain ⟨xs, h1, _⟩ := h
  exact fun g hg => ⟨(h1.1.lt g hg).2, h1.2 g hg⟩
theorem GIn.step (hE : EL E K) (hG : GT Pg t T K) {P P' : Nat → Prop} {ov : Value} {v : α} {x : Array Value} (h : GIn E t K P W ov m) (hb : ∀ b, P b → b < W.heap.size → W1.heap[b]? = W.heap[b]?) (hsz : W.heap.size ≤ W1.heap.size) (hP : ∀ b, b < W.heap.size → P b → P' b) (hnew : ∀ b, W1.heap.size ≤ b → P' b)
    (hx : E W1 (fun b => W.heap.size ≤ b ∧ P' b) v x) (hm : m.length ≤ 1000000) (ty : TypeId) :
    ∃ v' W2, (Builtin.append_ #[T, T] ty #[ov, .slice (some ⟨W1.heap.size, 0, none⟩) 1 1]).run Pg (W1.alloc (.cells x t)) = .ok v' W2 ∧ GIn E t K P' W2 v' (m ++ [v]) ∧ Touch (fun b => ov.ownBlock = some b) (W1.alloc (.cells x t)) W2 := by
  have ha : Below W1.heap.size W1 (W1.alloc (.cells x t)) := below_new _
  have hlt : ∀ g, ov.ownBlock = some g → g < W.heap.size := fun g hg => (h.lt g hg).1
  obtain ⟨xs, h1, h2⟩ := h.kept (P' := P') hE (W' := W1.alloc (.cells x t)) (fun b hp hlt => (ha.block b (by omega)).trans (hb b hp hlt)) hP
  have hx' : E (W1.alloc (.cells x t)) (fun b => W.heap.size ≤ b ∧ P' b) v x := hE.keep (fun b _ hb => ha.block b hb) hx
  have hs1 : (W1.alloc (.cells x t)).heap.size = W1.heap.size + 1 := by simp
  obtain ⟨v', W2, a1, a2, a3, a4, a5⟩ := hG.app h1.1 (hE.size hx) (hE.ones hx) (heap_alloc_new W1 _) hm ty
  refine ⟨v', W2, a1, ⟨xs ++ [x], ⟨?_, fun g hg => ?_⟩, ?_⟩, a3⟩
  · rw [List.flatMap_append, List.length_append]
    simpa using a2
  · rcases a4 with e | e
    · exact h1.2 g (e.symm.trans hg)
    · rw [e] at hg
      cases hg
      exact hnew _ (by omega)
  · have hs : GOwns E (W1.alloc (.cells x t)) (fun b => P' b ∧ ov.ownBlock ≠ some b ∧ b < (W1.alloc (.cells x t)).heap.size) (m ++ [v]) (xs ++ [x]) :=
      (h2.imp hE fun b hb hp => ⟨hp.1, hp.2, hb⟩).snoc (hE.imp (fun b hb hp => ⟨hp.2, fun e => by have := hlt b e; omega, hb⟩) hx')
    refine (hs.keep hE (w' := W2) fun b hp hb => a3.block b hb hp.2.1).imp hE fun b _ hp => ⟨hp.1, ?_⟩
    rcases a4 with e | e
    · rw [e]; exact hp.2.1
    · rw [e]; intro e2; cases e2; have := hp.2.2; omega
def GRd (E : World → α → Array Value → Prop) (K : Nat) (w : World) (p : Option Addr) (c : Nat) (l : List α) : Prop :=
  (l.length ≤ c ∧ (l.length ≤ 140737488355328 ∧ c ≤ 9223372036854775807) ∧ (p = none → c = 0)) ∧ ∀ ad, p = some ad → (l ≠ [] → ad.spot = none) ∧ ∀ (j : Nat) (v : α), l[j]? = some v → ∃ cs : Array Value, cs.size = K ∧ (∀ (i : Nat) (u : Value), cs[i]? = some u → w.cell? ⟨ad.block, ad.off + j * K + i, none⟩ = some u) ∧ E w v cs
variable {F : World → α → Array Value → Prop}
theorem GRd.get {p : Option Addr} {c : Nat} (h : GRd F K w p c l) {i : Nat} (hi : i < l.length) : ∃ b o cs, p = some ⟨b, o, none⟩ ∧ cs.size = K ∧ (∀ (k : Nat) (u : Value), cs[k]? = some u → w.cell? ⟨b, o + i * K + k, none⟩ = some u) ∧ F w l[i] cs := by
  obtain ⟨⟨h1, h2, h3⟩, h4⟩ := h
  cases p with
  | none => have := h3 rfl; omega
  | some ad =>
    obtain ⟨hs, hc⟩ := h4 ad rfl
    have hs := hs (fun e => by rw [e] at hi; simp at hi)
    obtain ⟨b, o, sp⟩ := ad
    simp only at hs; subst hs
    obtain ⟨cs, h5, h6, h7⟩ := hc i _ (List.getElem?_eq_getElem hi)
    exact ⟨b, o, cs, rfl, h5, h6, h7⟩
theorem GRd.below (hF : ∀ {v : α} {cs : Array Value}, F w v cs → F w' v cs) {p : Option Addr} {c : Nat} (h : GRd F K w p c l) (g : Below w.heap.size w w') : GRd F K w' p c l := by
  obtain ⟨h1, h2⟩ := h
  refine ⟨h1, fun ad had => ⟨(h2 ad had).1, fun j v hv => ?_⟩⟩
  obtain ⟨cs, h3, h4, h5⟩ := (h2 ad had).2 j v hv
  exact ⟨cs, h3, fun i u hu => belowCell g (ltOf (h4 i u hu)) (h4 i u hu), hF h5⟩
theorem flat_K {xs : List (Array Value)} (h6 : ∀ x ∈ xs, x.size = K) : ∀ (j : Nat) (x : Array Value), xs[j]? = some x → ∀ i, i < K → (xs.flatMap Array.toList)[j * K + i]? = x[i]? := by
  induction xs with
  | nil => intro j x h; simp at h
  | cons a r ih =>
    intro j x h i hi
    have ha := h6 a (by simp)
    rw [List.flatMap_cons]
    cases j with
    | zero =>
      simp only [List.getElem?_cons_zero, Option.some.injEq] at h
      subst h
      rw [Nat.zero_mul, Nat.zero_add, List.getElem?_append_left (by simp [ha, hi])]
      simp
    | succ j =>
      have e0 : (j + 1) * K = j * K + K := by rw [Nat.succ_mul]
      have hj : a.toList.length ≤ (j + 1) * K + i := by simp [ha]; omega
      rw [List.getElem?_append_right hj]
      have e : (j + 1) * K + i - a.toList.length = j * K + i := by simp [ha]; omega
      rw [e]
      exact ih (fun x hx => h6 x (by simp [hx])) j x (by simpa using h) i hi
theorem GOwn.rd (hE : EL E K) {vl : Value} (h : GOwn E t K w P vl l) (hn : l.length ≤ 140737488355328) (hr : ∀ v ∈ l, ∀ x, E w P v x → F w v x) : ∃ p c, vl = .slice p l.length c ∧ GRd F K w p c l := by
  obtain ⟨xs, h1, h2⟩ := h
  have hc := fun g => h1.1.cells (g := g)
  rcases h1.1.2 with ⟨rfl, h0⟩ | ⟨g, cap, cur, rfl, _, hg, hnc, hcm, _⟩
  · have : l = [] := List.eq_nil_of_length_eq_zero h0
    subst this
    exact ⟨none, 0, rfl, ⟨Nat.le_refl _, by simp, fun _ => rfl⟩, fun ad h => by cases h⟩
  · refine ⟨some ⟨g, 0, none⟩, cap, rfl, ⟨hnc, ⟨hn, by unfold maxLen at hcm; omega⟩, fun h => (by cases h)⟩, fun ad had => ?_⟩
    cases had
    refine ⟨fun _ => rfl, fun j v hv => ?_⟩
    obtain ⟨x, hx, hown⟩ := h2.2 j v hv
    refine ⟨x, hE.size hown, fun i u hu => ?_, hr v (List.mem_of_getElem? hv) x hown⟩
    have hi : i < K := by
      have := (Array.getElem?_eq_some_iff.1 hu).1
      rw [hE.size hown] at this; exact this
    have := hc g rfl (j * K + i) u (by rw [flat_K (fun y hy => by obtain ⟨z, _, hz⟩ := h2.mem hy; exact hE.size hz) j x hx i hi]; exact hu)
    rw [addr_add] at this
    rw [Nat.zero_add] at this ⊢
    exact this
end
end Go.Proofs.YthdfedfholmbmaaGreatDoor

namespace Go.Proofs.YthdfedfholmbmaaGreatDoor
abbrev Dec (α : Type) := List UInt8 → Option (α × List UInt8)
structure RT {α : Type} (d : Dec α) (e : α → List UInt8) (P : α → Prop) : Prop where
  full : ∀ x r, P x → d (e x ++ r) = some (x, r)
  sound : ∀ b x r, d b = some (x, r) → b = e x ++ r ∧ P x
section
variable {α β : Type} {d : Dec α} {e : α → List UInt8} {P : α → Prop} {f : Dec β} {g : β → List UInt8} {Q : β → Prop}
theorem RT.one (h : RT d e P) {x y : α} {r s : List UInt8} (hx : P x) (hy : P y) (he : e x ++ r = e y ++ s) : x = y ∧ r = s := by
  have h1 := h.full x r hx
  rw [he, h.full y s hy] at h1
  cases h1
  exact ⟨rfl, rfl⟩
def Dec.seq (d : Dec α) (f : Dec β) : Dec (α × β) := fun b => match d b with
  | none => none
  | some (x, r) => match f r with
    | none => none
    | some (y, s) => some ((x, y), s)
theorem RT.seq (h : RT d e P) (k : RT f g Q) : RT (d.seq f) (fun x => e x.1 ++ g x.2) (fun x => P x.1 ∧ Q x.2) := by
  refine ⟨fun x r hx => ?_, fun b x r hb => ?_⟩
  · unfold Dec.seq
    rw [List.append_assoc, h.full x.1 _ hx.1]
    simp only
    rw [k.full x.2 r hx.2]
  · unfold Dec.seq at hb
    split at hb
    · cases hb
    · rename_i y s hd
      split at hb
      · cases hb
      · rename_i z t hf
        cases hb
        obtain ⟨h1, h2⟩ := h.sound _ _ _ hd
        obtain ⟨k1, k2⟩ := k.sound _ _ _ hf
        exact ⟨by rw [h1, k1, List.append_assoc], h2, k2⟩
def Dec.map (u : α → β) (d : Dec α) : Dec β := fun b => (d b).map fun p => (u p.1, p.2)
theorem RT.map (h : RT d e P) (u : α → β) (v : β → α) (h1 : ∀ x, P x → Q (u x) ∧ v (u x) = x) (h2 : ∀ y, Q y → P (v y) ∧ u (v y) = y) : RT (d.map u) (fun y => e (v y)) Q := by
  refine ⟨fun y r hy => ?_, fun b y r hb => ?_⟩
  · unfold Dec.map
    rw [h.full _ r (h2 y hy).1, Option.map_some, (h2 y hy).2]
  · unfold Dec.map at hb
    obtain ⟨⟨x, s⟩, hd, he⟩ := Option.map_eq_some_iff.1 hb
    cases he
    obtain ⟨k1, k2⟩ := h.sound _ _ _ hd
    exact ⟨by rw [(h1 x k2).2]; exact k1, (h1 x k2).1⟩
def Dec.rep (d : Dec α) : Nat → List UInt8 → Option (List α × List UInt8)
  | 0, b => some ([], b)
  | n + 1, b => match d b with
    | none => none
    | some (x, r) => match d.rep n r with
      | none => none
      | some (l, s) => some (x :: l, s)
theorem rep_full (h : RT d e P) : ∀ (l : List α) (r : List UInt8), (∀ x ∈ l, P x) → d.rep l.length (l.flatMap e ++ r) = some (l, r)
  | [], r, _ => rfl
  | x :: l, r, hp => by
    rw [List.length_cons, Dec.rep, List.flatMap_cons, List.append_assoc, h.full x _ (hp x (by simp))]
    simp only
    rw [rep_full h l r fun y hy => hp y (by simp [hy])]
theorem rep_sound (h : RT d e P) : ∀ (n : Nat) (b : List UInt8) (l : List α) (r : List UInt8), d.rep n b = some (l, r) → b = l.flatMap e ++ r ∧ l.length = n ∧ ∀ x ∈ l, P x
  | 0, b, l, r, hb => by cases hb; exact ⟨by simp, rfl, by simp⟩
  | n + 1, b, l, r, hb => by
    rw [Dec.rep] at hb
    split at hb
    · cases hb
    · rename_i x s hd
      split at hb
      · cases hb
      · rename_i m t hm
        cases hb
        obtain ⟨h1, h2⟩ := h.sound _ _ _ hd
        obtain ⟨k1, k2, k3⟩ := rep_sound h n s m r hm
        refine ⟨by rw [List.flatMap_cons, List.append_assoc, ← k1]; exact h1, by simp [k2], fun y hy => ?_⟩
        rcases List.mem_cons.1 hy with rfl | hy
        · exact h2
        · exact k3 y hy
end
def numB (n : Nat) : List UInt8 := if h : n < 128 then [UInt8.ofNat n] else UInt8.ofNat (n % 128 + 128) :: numB (n / 128)
termination_by n
decreasing_by omega
theorem numB_low {n : Nat} (h : n < 128) : numB n = [UInt8.ofNat n] := by rw [numB, dif_pos h]
theorem numB_high {n : Nat} (h : ¬ n < 128) : numB n = UInt8.ofNat (n % 128 + 128) :: numB (n / 128) := by rw [numB, dif_neg h]
theorem numB_pos : ∀ n, 0 < (numB n).length := by
  intro n
  by_cases h : n < 128
  · rw [numB_low h]; simp
  · rw [numB_high h]; simp
def rdN : Nat → Nat → List UInt8 → Option (Nat × List UInt8)
  | _, _, [] => none
  | i, a, c :: r => if 9 ≤ i ∧ 2 ≤ c.toNat then none else if c.toNat < 128 then (if 0 < c.toNat ∨ i = 0 then some (a + c.toNat * 128 ^ i, r) else none) else rdN (i + 1) (a + (c.toNat - 128) * 128 ^ i) r
theorem ofNat_toNat {n : Nat} (h : n < 256) : (UInt8.ofNat n).toNat = n := by rw [UInt8.toNat_ofNat']; omega
theorem pow9 : (128 : Nat) ^ 9 = 9223372036854775808 := by decide
theorem pow_le {i : Nat} (h : i ≤ 9) : (128 : Nat) ^ i ≤ 9223372036854775808 := by rw [← pow9]; exact Nat.pow_le_pow_right (by omega) h
theorem rdN_full : ∀ (m i a : Nat) (r : List UInt8), (i = 0 ∨ 0 < m) → i ≤ 9 → a + m * 128 ^ i < 18446744073709551616 → rdN i a (numB m ++ r) = some (a + m * 128 ^ i, r) := by
  intro m
  induction m using Nat.strongRecOn with
  | ind m ih =>
    intro i a r h0 hi hb
    have h9 : i = 9 → m < 2 := fun e => by
      subst e; rw [pow9] at hb; omega
    by_cases h : m < 128
    · rw [numB_low h, List.singleton_append, rdN, ofNat_toNat (by omega), if_neg (by omega), if_pos h, if_pos (by omega)]
    · have hne : i ≠ 9 := fun e => by have := h9 e; omega
      rw [numB_high h, List.cons_append, rdN, ofNat_toNat (by omega), if_neg (by omega), if_neg (by omega)]
      have e : (m % 128 + 128 - 128) * 128 ^ i + m / 128 * 128 ^ (i + 1) = m * 128 ^ i := by
        rw [Nat.add_sub_cancel, Nat.pow_succ, Nat.mul_comm (128 ^ i) 128, ← Nat.mul_assoc, ← Nat.add_mul]
        congr 1; omega
      rw [ih (m / 128) (by omega) (i + 1) _ r (.inr (by omega)) (by omega) (by rw [Nat.add_assoc, e]; exact hb), Nat.add_assoc, e]
theorem rdN_sound : ∀ (b : List UInt8) (i a n : Nat) (r : List UInt8), i ≤ 9 → a < 128 ^ i → rdN i a b = some (n, r) → ∃ m, n = a + m * 128 ^ i ∧ b = numB m ++ r ∧ (i = 0 ∨ 0 < m) ∧ n < 18446744073709551616
  | [], i, a, n, r, _, _, h => by rw [rdN] at h; cases h
  | c :: b, i, a, n, r, hi, ha, h => by
    rw [rdN] at h
    have hc := c.toNat_lt
    split at h
    · cases h
    · rename_i h1
      split at h
      · rename_i h2
        split at h
        · rename_i h3
          cases h
          refine ⟨c.toNat, rfl, by rw [numB_low h2]; simp, by omega, ?_⟩
          have hp := pow_le hi
          by_cases e : i = 9
          · subst e; rw [pow9] at ha ⊢; omega
          · have hp8 : (128 : Nat) ^ i ≤ 72057594037927936 := by
              have : (128 : Nat) ^ i ≤ 128 ^ 8 := Nat.pow_le_pow_right (by omega) (by omega)
              exact Nat.le_trans this (by decide)
            have : c.toNat * 128 ^ i ≤ 127 * 72057594037927936 := Nat.mul_le_mul (by omega) hp8
            omega
        · cases h
      · rename_i h2
        have hne : i ≠ 9 := fun e => by omega
        have ha2 : a + (c.toNat - 128) * 128 ^ i < 128 ^ (i + 1) := by
          rw [Nat.pow_succ]
          have : (c.toNat - 128) * 128 ^ i ≤ 127 * 128 ^ i := Nat.mul_le_mul_right _ (by omega)
          omega
        obtain ⟨m, e1, e2, e3, e4⟩ := rdN_sound b (i + 1) _ n r (by omega) ha2 h
        have hm : 0 < m := by omega
        refine ⟨m * 128 + (c.toNat - 128), ?_, ?_, .inr (by omega), e4⟩
        · rw [e1, Nat.add_mul, Nat.pow_succ, Nat.mul_comm (128 ^ i) 128, ← Nat.mul_assoc]; omega
        · have hnot : ¬ (m * 128 + (c.toNat - 128) < 128) := by omega
          rw [numB_high hnot, List.cons_append]
          have q1 : (m * 128 + (c.toNat - 128)) % 128 + 128 = c.toNat := by omega
          have q2 : (m * 128 + (c.toNat - 128)) / 128 = m := by omega
          rw [q1, q2, ← e2]
          congr 1
          exact UInt8.toNat_inj.1 (by rw [ofNat_toNat hc])
def u64T (n : Nat) : Prop := n < 18446744073709551616
theorem rt_num : RT (rdN 0 0) numB u64T := by
  refine ⟨fun n r h => ?_, fun b n r h => ?_⟩
  · have h' : n < 18446744073709551616 := h
    have := rdN_full n 0 0 r (.inl rfl) (by omega) (by simpa using h')
    simpa using this
  · obtain ⟨m, e1, e2, _, e4⟩ := rdN_sound b 0 0 n r (by omega) (by simp) h
    have : n = m := by simpa using e1
    subst this
    exact ⟨e2, e4⟩
def zzN (n : Int) : Nat := if n < 0 then (-(2 * n) - 1).toNat else (2 * n).toNat
def unzz (n : Nat) : Int := if n % 2 = 1 then -((n / 2 : Nat) : Int) - 1 else ((n / 2 : Nat) : Int)
def i64T (n : Int) : Prop := -9223372036854775808 ≤ n ∧ n ≤ 9223372036854775807
theorem zz_un {n : Nat} (h : u64T n) : i64T (unzz n) ∧ zzN (unzz n) = n := by
  unfold u64T at h; unfold i64T unzz zzN
  by_cases e : n % 2 = 1
  · rw [if_pos e, if_pos (by omega)]; omega
  · rw [if_neg e, if_neg (by omega)]; omega
theorem un_zz {n : Int} (h : i64T n) : u64T (zzN n) ∧ unzz (zzN n) = n := by
  unfold i64T at h; unfold u64T unzz zzN
  by_cases e : n < 0
  · rw [if_pos e, if_pos (by omega)]; omega
  · rw [if_neg e, if_neg (by omega)]; omega
def toI (n : Nat) : Int := if n < 9223372036854775808 then (n : Int) else (n : Int) - 18446744073709551616
def toU (n : Int) : Nat := if n < 0 then (n + 18446744073709551616).toNat else n.toNat
theorem toU_toI {n : Nat} (h : u64T n) : i64T (toI n) ∧ toU (toI n) = n := by
  unfold u64T at h; unfold i64T toI toU
  by_cases e : n < 9223372036854775808
  · rw [if_pos e, if_neg (by omega)]; omega
  · rw [if_neg e, if_pos (by omega)]; omega
theorem toI_toU {n : Int} (h : i64T n) : u64T (toU n) ∧ toI (toU n) = n := by
  unfold i64T at h; unfold u64T toI toU
  by_cases e : n < 0
  · rw [if_pos e, if_neg (by omega)]; omega
  · rw [if_neg e, if_pos (by omega)]; omega
theorem rt_int : RT (Dec.map toI (rdN 0 0)) (fun n => numB (toU n)) i64T := rt_num.map toI toU (fun x hx => toU_toI hx) (fun y hy => toI_toU hy)
def textC (s : List UInt8) : List UInt8 := numB s.length ++ s
def rdText : Dec (List UInt8) := fun b => match rdN 0 0 b with
  | none => none
  | some (n, r) => if n ≤ r.length then some (r.take n, r.drop n) else none
theorem rt_text : RT rdText textC (fun s => u64T s.length) := by
  refine ⟨fun s r h => ?_, fun b s r h => ?_⟩
  · unfold rdText textC
    rw [List.append_assoc, rt_num.full _ _ h]
    simp
  · unfold rdText at h
    split at h
    · cases h
    · rename_i n t hd
      split at h
      · rename_i hn
        cases h
        obtain ⟨h1, h2⟩ := rt_num.sound _ _ _ hd
        have hl : (t.take n).length = n := by simp; omega
        unfold textC
        rw [hl, List.append_assoc, List.take_append_drop]
        exact ⟨h1, h2⟩
      · cases h
section
variable {α : Type} {d : Dec α} {e : α → List UInt8} {P : α → Prop}
def rowsC (e : α → List UInt8) (l : List α) : List UInt8 := numB l.length ++ l.flatMap e
def rdRows (d : Dec α) : Dec (List α) := fun b => match rdN 0 0 b with
  | none => none
  | some (n, r) => if n ≤ r.length then d.rep n r else none
theorem flat_le (he : ∀ x, P x → 0 < (e x).length) : ∀ l : List α, (∀ x ∈ l, P x) → l.length ≤ (l.flatMap e).length
  | [], _ => by simp
  | x :: l, h => by
    rw [List.flatMap_cons, List.length_append, List.length_cons]
    have := he x (h x (by simp))
    have := flat_le he l fun y hy => h y (by simp [hy])
    omega
theorem rt_rows (h : RT d e P) (he : ∀ x, P x → 0 < (e x).length) : RT (rdRows d) (rowsC e) (fun l => u64T l.length ∧ ∀ x ∈ l, P x) := by
  refine ⟨fun l r hl => ?_, fun b l r hb => ?_⟩
  · unfold rdRows rowsC
    rw [List.append_assoc, rt_num.full _ _ hl.1]
    have := flat_le he l hl.2
    simp only [List.length_append]
    rw [if_pos (by omega)]
    exact rep_full h l r hl.2
  · unfold rdRows at hb
    split at hb
    · cases hb
    · rename_i n t hd
      split at hb
      · obtain ⟨h1, h2⟩ := rt_num.sound _ _ _ hd
        obtain ⟨k1, k2, k3⟩ := rep_sound h n t l r hb
        unfold rowsC
        rw [k2, List.append_assoc, ← k1]
        exact ⟨h1, h2, k3⟩
      · cases hb
end
end Go.Proofs.YthdfedfholmbmaaGreatDoor

namespace Go.Proofs.YthdfedfholmbmaaGreatDoor
mutual
def valC : V → List UInt8
  | .mk k b n t ks l => UInt8.ofNat k.toNat :: (if k = 1 then [if b then 1 else 0] else if k = 2 then numB (zzN n) else if k = 3 then textC t else if k = 4 then numB l.length ++ valsC l else if k = 5 then numB l.length ++ kvC ks l else if k = 6 ∨ k = 7 then numB (toU n) else [])
def valsC : List V → List UInt8
  | [] => []
  | a :: x => valC a ++ valsC x
def kvC : List (List UInt8) → List V → List UInt8
  | _, [] => []
  | [], a :: x => valC a ++ kvC [] x
  | s :: ks, a :: x => textC s ++ valC a ++ kvC ks x
end
theorem valsC_eq : ∀ l : List V, valsC l = l.flatMap valC
  | [] => rfl
  | a :: x => by rw [valsC, List.flatMap_cons, valsC_eq x]
theorem kvC_eq : ∀ (ks : List (List UInt8)) (l : List V), ks.length = l.length → kvC ks l = (ks.zip l).flatMap fun p => textC p.1 ++ valC p.2
  | [], [], _ => by simp [kvC]
  | [], _ :: _, h => by simp at h
  | _ :: _, [], h => by simp at h
  | s :: ks, a :: x, h => by
    rw [kvC, List.zip_cons_cons, List.flatMap_cons, kvC_eq ks x (by simpa using h)]
theorem valC_pos (v : V) : 0 < (valC v).length := by cases v; rw [valC]; simp
def rdBool : List UInt8 → Option (V × List UInt8)
  | [] => none
  | x :: s => if x.toNat < 2 then some (.mk 1 (x.toNat == 1) 0 [] [] [], s) else none
def rdVal : Nat → List UInt8 → Option (V × List UInt8)
  | 0, _ => none
  | _ + 1, [] => none
  | d + 1, c :: r =>
    if c.toNat = 0 then some (.mk 0 false 0 [] [] [], r)
    else if c.toNat = 1 then rdBool r
    else if c.toNat = 2 then (rdN 0 0 r).map fun p => (.mk 2 false (unzz p.1) [] [] [], p.2)
    else if c.toNat = 3 then (rdText r).map fun p => (.mk 3 false 0 p.1 [] [], p.2)
    else if c.toNat = 4 then (rdRows (rdVal d) r).map fun p => (.mk 4 false 0 [] [] p.1, p.2)
    else if c.toNat = 5 then (rdRows (Dec.seq rdText (rdVal d)) r).map fun p => (.mk 5 false 0 [] (p.1.map Prod.fst) (p.1.map Prod.snd), p.2)
    else if c.toNat = 6 ∨ c.toNat = 7 then (rdN 0 0 r).map fun p => (.mk (c.toNat : Int) false (toI p.1) [] [] [], p.2)
    else none
def wfV : Nat → V → Prop
  | 0, _ => False
  | d + 1, .mk k b n t ks l =>
    (k = 0 ∧ b = false ∧ n = 0 ∧ t = [] ∧ ks = [] ∧ l = []) ∨ (k = 1 ∧ n = 0 ∧ t = [] ∧ ks = [] ∧ l = []) ∨ (k = 2 ∧ b = false ∧ i64T n ∧ t = [] ∧ ks = [] ∧ l = []) ∨
    (k = 3 ∧ b = false ∧ n = 0 ∧ u64T t.length ∧ ks = [] ∧ l = []) ∨ (k = 4 ∧ b = false ∧ n = 0 ∧ t = [] ∧ ks = [] ∧ u64T l.length ∧ ∀ v ∈ l, wfV d v) ∨
    (k = 5 ∧ b = false ∧ n = 0 ∧ t = [] ∧ ks.length = l.length ∧ u64T l.length ∧ (∀ s ∈ ks, u64T s.length) ∧ ∀ v ∈ l, wfV d v) ∨ ((k = 6 ∨ k = 7) ∧ b = false ∧ i64T n ∧ t = [] ∧ ks = [] ∧ l = [])
theorem zip_maps {α β : Type} : ∀ l : List (α × β), (l.map Prod.fst).zip (l.map Prod.snd) = l
  | [] => rfl
  | a :: l => by rw [List.map_cons, List.map_cons, List.zip_cons_cons, zip_maps l]
theorem zip_fst {α β : Type} : ∀ (a : List α) (b : List β), a.length = b.length → (a.zip b).map Prod.fst = a ∧ (a.zip b).map Prod.snd = b
  | [], [], _ => ⟨rfl, rfl⟩
  | [], _ :: _, h => by simp at h
  | _ :: _, [], h => by simp at h
  | x :: a, y :: b, h => by
    obtain ⟨h1, h2⟩ := zip_fst a b (by simpa using h)
    simp only [List.zip_cons_cons, List.map_cons, h1, h2]
    exact ⟨trivial, trivial⟩
theorem mem_zip {α β : Type} {a : List α} {b : List β} {p : α × β} (h : p ∈ a.zip b) : p.1 ∈ a ∧ p.2 ∈ b := by
  cases p; exact ⟨(List.of_mem_zip h).1, (List.of_mem_zip h).2⟩
theorem rt_val : ∀ d, RT (rdVal d) valC (wfV d)
  | 0 => ⟨fun x r h => h.elim, fun b x r h => by rw [rdVal] at h; cases h⟩
  | d + 1 => by
    have ih := rt_val d
    have hl := rt_rows ih (fun x _ => valC_pos x)
    have hm := rt_rows (rt_text.seq ih) (fun x _ => by have := valC_pos x.2; rw [List.length_append]; omega)
    refine ⟨fun v r h => ?_, fun b v r h => ?_⟩
    · cases v with
      | mk k b n t ks l =>
        rw [wfV] at h
        rcases h with ⟨rfl, rfl, rfl, rfl, rfl, rfl⟩ | ⟨rfl, rfl, rfl, rfl, rfl⟩ | ⟨rfl, rfl, h1, rfl, rfl, rfl⟩ | ⟨rfl, rfl, rfl, h1, rfl, rfl⟩ | ⟨rfl, rfl, rfl, rfl, rfl, h1, h2⟩ | ⟨rfl, rfl, rfl, rfl, h1, h2, h3, h4⟩ | ⟨hk, rfl, h1, rfl, rfl, rfl⟩
        · rw [valC, if_neg (by decide), if_neg (by decide), if_neg (by decide), if_neg (by decide), if_neg (by decide), if_neg (by decide)]; rfl
        · rw [valC, if_pos rfl]; cases b <;> rfl
        · rw [valC, if_neg (by decide), if_pos rfl, List.cons_append, rdVal, if_neg (by decide), if_neg (by decide), if_pos (by decide), rt_num.full _ r (un_zz h1).1, Option.map_some, (un_zz h1).2]
        · rw [valC, if_neg (by decide), if_neg (by decide), if_pos rfl, List.cons_append, rdVal, if_neg (by decide), if_neg (by decide), if_neg (by decide), if_pos (by decide), rt_text.full _ r h1, Option.map_some]
        · rw [valC, if_neg (by decide), if_neg (by decide), if_neg (by decide), if_pos rfl, valsC_eq, List.cons_append, rdVal, if_neg (by decide), if_neg (by decide), if_neg (by decide), if_neg (by decide), if_pos (by decide)]
          have := hl.full l r ⟨h1, h2⟩
          unfold rowsC at this
          rw [this, Option.map_some]
        · rw [valC, if_neg (by decide), if_neg (by decide), if_neg (by decide), if_neg (by decide), if_pos rfl, kvC_eq ks l h1, List.cons_append, rdVal, if_neg (by decide), if_neg (by decide), if_neg (by decide), if_neg (by decide), if_neg (by decide), if_pos (by decide)]
          have hz : (ks.zip l).length = l.length := by simp; omega
          have := hm.full (ks.zip l) r ⟨by rw [hz]; exact h2, fun p hp => ⟨h3 _ (mem_zip hp).1, h4 _ (mem_zip hp).2⟩⟩
          unfold rowsC at this
          rw [hz] at this
          rw [this, Option.map_some, (zip_fst ks l h1).1, (zip_fst ks l h1).2]
        · have hn : u64T (toU n) ∧ toI (toU n) = n := toI_toU h1
          rcases hk with rfl | rfl
          · rw [valC, if_neg (by decide), if_neg (by decide), if_neg (by decide), if_neg (by decide), if_neg (by decide), if_pos (by decide), List.cons_append, rdVal, if_neg (by decide), if_neg (by decide), if_neg (by decide), if_neg (by decide), if_neg (by decide), if_neg (by decide), if_pos (by decide), rt_num.full _ r hn.1, Option.map_some, hn.2]
            rfl
          · rw [valC, if_neg (by decide), if_neg (by decide), if_neg (by decide), if_neg (by decide), if_neg (by decide), if_pos (by decide), List.cons_append, rdVal, if_neg (by decide), if_neg (by decide), if_neg (by decide), if_neg (by decide), if_neg (by decide), if_neg (by decide), if_pos (by decide), rt_num.full _ r hn.1, Option.map_some, hn.2]
            rfl
    · cases b with
      | nil => rw [rdVal] at h; cases h
      | cons c s =>
        have hc : ∀ k : Nat, c.toNat = k → c = UInt8.ofNat k := fun k e => UInt8.toNat_inj.1 (by rw [ofNat_toNat (by have := c.toNat_lt; omega)]; exact e)
        rw [rdVal] at h
        split at h
        · rename_i e
          cases h
          refine ⟨?_, by rw [wfV]; exact .inl ⟨rfl, rfl, rfl, rfl, rfl, rfl⟩⟩
          rw [valC, if_neg (by decide), if_neg (by decide), if_neg (by decide), if_neg (by decide), if_neg (by decide), if_neg (by decide), hc 0 e]; rfl
        · split at h
          · rename_i e
            cases s with
            | nil => rw [rdBool] at h; cases h
            | cons x s' =>
              rw [rdBool] at h
              split at h
              · rename_i hx
                cases h
                refine ⟨?_, by rw [wfV]; exact .inr (.inl ⟨rfl, rfl, rfl, rfl, rfl⟩)⟩
                rw [valC, if_pos rfl, hc 1 e]
                have hx2 : x.toNat = 0 ∨ x.toNat = 1 := by omega
                rcases hx2 with hx2 | hx2
                · have : x = 0 := UInt8.toNat_inj.1 hx2
                  subst this; rfl
                · have : x = 1 := UInt8.toNat_inj.1 hx2
                  subst this; rfl
              · cases h
          · split at h
            · rename_i e
              obtain ⟨⟨m, s'⟩, hd, he⟩ := Option.map_eq_some_iff.1 h
              cases he
              obtain ⟨h1, h2⟩ := rt_num.sound _ _ _ hd
              obtain ⟨h3, h4⟩ := zz_un h2
              refine ⟨?_, by rw [wfV]; exact .inr (.inr (.inl ⟨rfl, rfl, h3, rfl, rfl, rfl⟩))⟩
              rw [valC, if_neg (by decide), if_pos rfl, h4, hc 2 e, h1]; rfl
            · split at h
              · rename_i e
                obtain ⟨⟨m, s'⟩, hd, he⟩ := Option.map_eq_some_iff.1 h
                cases he
                obtain ⟨h1, h2⟩ := rt_text.sound _ _ _ hd
                refine ⟨?_, by rw [wfV]; exact .inr (.inr (.inr (.inl ⟨rfl, rfl, rfl, h2, rfl, rfl⟩)))⟩
                rw [valC, if_neg (by decide), if_neg (by decide), if_pos rfl, hc 3 e, h1]; rfl
              · split at h
                · rename_i e
                  obtain ⟨⟨m, s'⟩, hd, he⟩ := Option.map_eq_some_iff.1 h
                  cases he
                  obtain ⟨h1, h2, h3⟩ := hl.sound _ _ _ hd
                  refine ⟨?_, by rw [wfV]; exact .inr (.inr (.inr (.inr (.inl ⟨rfl, rfl, rfl, rfl, rfl, h2, h3⟩))))⟩
                  rw [valC, if_neg (by decide), if_neg (by decide), if_neg (by decide), if_pos rfl, valsC_eq, hc 4 e, h1]
                  unfold rowsC; rfl
                · split at h
                  · rename_i e
                    obtain ⟨⟨m, s'⟩, hd, he⟩ := Option.map_eq_some_iff.1 h
                    cases he
                    obtain ⟨h1, h2, h3⟩ := hm.sound _ _ _ hd
                    have hlen : (m.map Prod.fst).length = (m.map Prod.snd).length := by simp
                    refine ⟨?_, by
                      rw [wfV]
                      refine .inr (.inr (.inr (.inr (.inr (.inl ⟨rfl, rfl, rfl, rfl, hlen, by simpa using h2, fun s hs => ?_, fun v hv => ?_⟩)))))
                      · obtain ⟨p, hp, rfl⟩ := List.mem_map.1 hs; exact (h3 p hp).1
                      · obtain ⟨p, hp, rfl⟩ := List.mem_map.1 hv; exact (h3 p hp).2⟩
                    rw [valC, if_neg (by decide), if_neg (by decide), if_neg (by decide), if_neg (by decide), if_pos rfl, kvC_eq _ _ hlen, zip_maps, hc 5 e, h1]
                    unfold rowsC
                    rw [List.length_map]; rfl
                  · split at h
                    · rename_i e
                      obtain ⟨⟨m, s'⟩, hd, he⟩ := Option.map_eq_some_iff.1 h
                      cases he
                      obtain ⟨h1, h2⟩ := rt_num.sound _ _ _ hd
                      obtain ⟨h3, h4⟩ := toU_toI h2
                      refine ⟨?_, by rw [wfV]; exact .inr (.inr (.inr (.inr (.inr (.inr ⟨by omega, rfl, h3, rfl, rfl, rfl⟩)))))⟩
                      have hk : ((c.toNat : Nat) : Int) = 6 ∨ ((c.toNat : Nat) : Int) = 7 := by omega
                      rw [valC, if_neg (by omega), if_neg (by omega), if_neg (by omega), if_neg (by omega), if_neg (by omega), if_pos hk, h4, h1, Int.toNat_natCast, ← hc _ rfl]; rfl
                    · cases h
end Go.Proofs.YthdfedfholmbmaaGreatDoor

namespace Go.Proofs.YthdfedfholmbmaaGreatDoor
structure PropD where
  key : List UInt8
  val : V
structure NodeD where
  id : Int
  labels : List (List UInt8)
  props : List PropD
structure RelD where
  id : Int
  src : Int
  dst : Int
  type : List UInt8
  props : List PropD
structure GraphD where
  nodes : List NodeD
  rels : List RelD
  nextNode : Int
  nextRel : Int
structure ChangeD where
  kind : Int
  id : Int
  other : Int
  node : NodeD
  rel : RelD
def node0 : NodeD := ⟨0, [], []⟩
def rel0 : RelD := ⟨0, 0, 0, [], []⟩
def propC (p : PropD) : List UInt8 := textC p.key ++ valC p.val
def rdProp : Dec PropD := Dec.map (fun p => ⟨p.1, p.2⟩) (Dec.seq rdText (rdVal 64))
def wfP (p : PropD) : Prop := u64T p.key.length ∧ wfV 64 p.val
theorem rt_prop : RT rdProp propC wfP := by
  have h := (rt_text.seq (rt_val 64))
  exact h.map (Q := wfP) (fun p => (⟨p.1, p.2⟩ : PropD)) (fun (p : PropD) => (p.key, p.val)) (fun x hx => ⟨hx, rfl⟩) (fun y hy => ⟨hy, rfl⟩)
theorem propC_pos (p : PropD) : 0 < (propC p).length := by unfold propC; rw [List.length_append]; have := valC_pos p.val; omega
theorem textC_pos (s : List UInt8) : 0 < (textC s).length := by unfold textC; rw [List.length_append]; have := numB_pos s.length; omega
def rdProps : Dec (List PropD) := rdRows rdProp
def wfPs (l : List PropD) : Prop := u64T l.length ∧ ∀ p ∈ l, wfP p
theorem rt_props : RT rdProps (rowsC propC) wfPs := rt_rows rt_prop fun p _ => propC_pos p
def wfLs (l : List (List UInt8)) : Prop := u64T l.length ∧ ∀ s ∈ l, u64T s.length
theorem rt_labels : RT (rdRows rdText) (rowsC textC) wfLs := rt_rows rt_text fun s _ => textC_pos s
def nodeC (n : NodeD) : List UInt8 := numB (toU n.id) ++ (rowsC textC n.labels ++ rowsC propC n.props)
def rdNode : Dec NodeD := Dec.map (fun p => ⟨p.1, p.2.1, p.2.2⟩) (Dec.seq (Dec.map toI (rdN 0 0)) (Dec.seq (rdRows rdText) rdProps))
def wfN (n : NodeD) : Prop := i64T n.id ∧ wfLs n.labels ∧ wfPs n.props
theorem rt_node : RT rdNode nodeC wfN := by
  have h := (rt_int.seq (rt_labels.seq rt_props))
  exact h.map (Q := wfN) (fun p => (⟨p.1, p.2.1, p.2.2⟩ : NodeD)) (fun (n : NodeD) => (n.id, n.labels, n.props)) (fun x hx => ⟨hx, rfl⟩) (fun y hy => ⟨hy, rfl⟩)
theorem nodeC_pos (n : NodeD) : 0 < (nodeC n).length := by unfold nodeC; rw [List.length_append]; have := numB_pos (toU n.id); omega
def relC (r : RelD) : List UInt8 := numB (toU r.id) ++ (numB (toU r.src) ++ (numB (toU r.dst) ++ (textC r.type ++ rowsC propC r.props)))
def rdRel : Dec RelD := Dec.map (fun p => ⟨p.1, p.2.1, p.2.2.1, p.2.2.2.1, p.2.2.2.2⟩) (Dec.seq (Dec.map toI (rdN 0 0)) (Dec.seq (Dec.map toI (rdN 0 0)) (Dec.seq (Dec.map toI (rdN 0 0)) (Dec.seq rdText rdProps))))
def wfR (r : RelD) : Prop := i64T r.id ∧ i64T r.src ∧ i64T r.dst ∧ u64T r.type.length ∧ wfPs r.props
theorem rt_rel : RT rdRel relC wfR := by
  have h := (rt_int.seq (rt_int.seq (rt_int.seq (rt_text.seq rt_props))))
  exact h.map (Q := wfR) (fun p => (⟨p.1, p.2.1, p.2.2.1, p.2.2.2.1, p.2.2.2.2⟩ : RelD)) (fun (r : RelD) => (r.id, r.src, r.dst, r.type, r.props)) (fun x hx => ⟨hx, rfl⟩) (fun y hy => ⟨hy, rfl⟩)
theorem relC_pos (r : RelD) : 0 < (relC r).length := by unfold relC; rw [List.length_append]; have := numB_pos (toU r.id); omega
def graphC (g : GraphD) : List UInt8 := rowsC nodeC g.nodes ++ (rowsC relC g.rels ++ (numB (toU g.nextNode) ++ numB (toU g.nextRel)))
def rdGraph : Dec GraphD := Dec.map (fun p => ⟨p.1, p.2.1, p.2.2.1, p.2.2.2⟩) (Dec.seq (rdRows rdNode) (Dec.seq (rdRows rdRel) (Dec.seq (Dec.map toI (rdN 0 0)) (Dec.map toI (rdN 0 0)))))
def wfG (g : GraphD) : Prop := (u64T g.nodes.length ∧ ∀ n ∈ g.nodes, wfN n) ∧ (u64T g.rels.length ∧ ∀ r ∈ g.rels, wfR r) ∧ i64T g.nextNode ∧ i64T g.nextRel
theorem rt_graph : RT rdGraph graphC wfG := by
  have h := ((rt_rows rt_node fun n _ => nodeC_pos n).seq ((rt_rows rt_rel fun r _ => relC_pos r).seq (rt_int.seq rt_int)))
  exact h.map (Q := wfG) (fun p => (⟨p.1, p.2.1, p.2.2.1, p.2.2.2⟩ : GraphD)) (fun (g : GraphD) => (g.nodes, g.rels, g.nextNode, g.nextRel)) (fun x hx => ⟨hx, rfl⟩) (fun y hy => ⟨hy, rfl⟩)
def changeC (c : ChangeD) : List UInt8 := UInt8.ofNat c.kind.toNat :: (if c.kind = 0 then nodeC c.node else if c.kind = 1 then relC c.rel else if c.kind = 4 then numB (zzN c.id) ++ numB (zzN c.other) else numB (zzN c.id))
def rdSigned : Dec Int := Dec.map unzz (rdN 0 0)
def wfC (c : ChangeD) : Prop :=
  (c.kind = 0 ∧ c.id = 0 ∧ c.other = 0 ∧ wfN c.node ∧ c.rel = rel0) ∨ (c.kind = 1 ∧ c.id = 0 ∧ c.other = 0 ∧ c.node = node0 ∧ wfR c.rel) ∨
  ((c.kind = 2 ∨ c.kind = 3) ∧ i64T c.id ∧ c.other = 0 ∧ c.node = node0 ∧ c.rel = rel0) ∨ (c.kind = 4 ∧ i64T c.id ∧ i64T c.other ∧ c.node = node0 ∧ c.rel = rel0)
def changesC (l : List ChangeD) : List UInt8 := rowsC changeC l
end Go.Proofs.YthdfedfholmbmaaGreatDoor

namespace Go.Proofs.YthdfedfholmbmaaGreatDoor
theorem totV_list {v x : V} (h : x ∈ v.list) : totV x ≤ totV v := by rw [totV_eq v]; have := totVs_mem h; omega
theorem rngV_parts {v : V} (h : rngV v) : (-9223372036854775808 ≤ v.n ∧ v.n ≤ 9223372036854775807) ∧ rngVs v.list := by cases v; exact rngV_mk.1 h
theorem deep_mem {x : V} : ∀ {l : List V}, x ∈ l → deepV x ≤ deepVs l := by
  intro l h
  induction l with
  | nil => cases h
  | cons a l ih =>
    rw [deepVs]
    rcases List.mem_cons.1 h with rfl | h
    · omega
    · have := ih h; omega
theorem deep_list {v x : V} (h : x ∈ v.list) : deepV x + 1 ≤ deepV v := by
  cases v with
  | mk k b n t ks l =>
    have := deep_mem (l := l) h
    rw [deepV]; omega
theorem wf_of_may {u : List UInt8 → Bool} : ∀ (d : Nat) (v : V), mayV u v = true → deepV v ≤ d → rngV v → totV v < 18446744073709551616 → wfV d v
  | 0, v, _, hd, _, _ => by cases v; rw [deepV] at hd; omega
  | d + 1, v, hm, hd, hr, ht => by
    obtain ⟨h1, h2⟩ := mayV_iff.1 hm
    have hF := oneV_iff.1 h1
    have hl : ∀ x ∈ v.list, wfV d x := fun x hx => wf_of_may d x (h2 x hx) (by have := deep_list hx; omega) (rngVs_iff.1 (rngV_parts hr).2 x hx) (by have := totV_list hx; omega)
    have hn := (rngV_parts hr).1
    have hT := totV_eq v
    have hL := totVs_length v.list
    have hK : ∀ s ∈ v.keys, s.length ≤ (v.keys.map List.length).sum := fun s hs => sum_mem hs
    cases v with
    | mk k b n t ks l =>
      obtain ⟨lo, hi, fb, fn, ft, fk, fl, fp, _, flen, _, _⟩ := hF
      simp only [V.kind, V.b, V.n, V.text, V.keys, V.list] at *
      rw [wfV]
      have hk : k = 0 ∨ k = 1 ∨ k = 2 ∨ k = 3 ∨ k = 4 ∨ k = 5 ∨ k = 6 ∨ k = 7 := by omega
      rcases hk with rfl | rfl | rfl | rfl | rfl | rfl | rfl | rfl
      · exact .inl ⟨rfl, fb (by decide), fn (by decide) (by decide) (by decide), ft (by decide), fk (by decide), fl (by decide) (by decide)⟩
      · exact .inr (.inl ⟨rfl, fn (by decide) (by decide) (by decide), ft (by decide), fk (by decide), fl (by decide) (by decide)⟩)
      · exact .inr (.inr (.inl ⟨rfl, fb (by decide), hn, ft (by decide), fk (by decide), fl (by decide) (by decide)⟩))
      · exact .inr (.inr (.inr (.inl ⟨rfl, fb (by decide), fn (by decide) (by decide) (by decide), by unfold u64T; omega, fk (by decide), fl (by decide) (by decide)⟩)))
      · exact .inr (.inr (.inr (.inr (.inl ⟨rfl, fb (by decide), fn (by decide) (by decide) (by decide), ft (by decide), fk (by decide), by unfold u64T; omega, hl⟩))))
      · exact .inr (.inr (.inr (.inr (.inr (.inl ⟨rfl, fb (by decide), fn (by decide) (by decide) (by decide), ft (by decide), flen rfl, by unfold u64T; omega, fun s hs => by have := hK s hs; unfold u64T; omega, hl⟩)))))
      · exact .inr (.inr (.inr (.inr (.inr (.inr ⟨.inl rfl, fb (by decide), hn, ft (by decide), fk (by decide), fl (by decide) (by decide)⟩)))))
      · exact .inr (.inr (.inr (.inr (.inr (.inr ⟨.inr rfl, fb (by decide), hn, ft (by decide), fk (by decide), fl (by decide) (by decide)⟩)))))
theorem wf_of_check {u : List UInt8 → Bool} {v : V} (h : checkV u v = 0) (hr : rngV v) (ht : totV v < 18446744073709551616) : wfV 64 v := by
  unfold checkV at h
  split at h
  · rename_i hm
    split at h
    · cases h
    · rename_i hn
      simp only [Bool.or_eq_true, decide_eq_true_eq, not_or] at hn
      exact wf_of_may 64 v hm (by omega) hr ht
  · cases h
end Go.Proofs.YthdfedfholmbmaaGreatDoor

namespace Go.Proofs.YthdfedfholmbmaaGreatDoor
abbrev Rs := List UInt8 × Bool
def dN : Nat → Nat → List UInt8 → Option (Nat × List UInt8 × Bool)
  | _, _, [] => none
  | i, a, c :: r => if 10 ≤ i then none else
    if c.toNat < 128 then some ((a + c.toNat % 128 * 2 ^ (7 * i)) % 18446744073709551616, r, (decide (i = 0) || decide (c.toNat ≠ 0)) && (decide (i < 9) || decide (c.toNat < 2)))
    else dN (i + 1) ((a + c.toNat % 128 * 2 ^ (7 * i)) % 18446744073709551616) r
def docN (s : Rs) : Nat × Rs := match dN 0 0 s.1 with
  | none => (0, s.1, true)
  | some (n, r, ok) => (n, r, s.2 || !ok)
def docCount (s : Rs) : Nat × Rs := if (docN s).2.1.length < (docN s).1 then (0, (docN s).2.1, true) else docN s
def docText (s : Rs) : List UInt8 × Rs := ((docCount s).2.1.take (docCount s).1, (docCount s).2.1.drop (docCount s).1, (docCount s).2.2)
def docInt (s : Rs) : Int × Rs := (toI (docN s).1, (docN s).2)
def docSigned (s : Rs) : Int × Rs := (unzz (docN s).1, (docN s).2)
section
variable {α β : Type}
def docSeq (f : Rs → α × Rs) (g : Rs → β × Rs) (s : Rs) : (α × β) × Rs := (((f s).1, (g (f s).2).1), (g (f s).2).2)
def docMap (u : α → β) (f : Rs → α × Rs) (s : Rs) : β × Rs := (u (f s).1, (f s).2)
def docLoop (f : Rs → α × Rs) : Nat → Rs → List α × Rs
  | 0, s => ([], s)
  | n + 1, s => if s.2 then ([], s) else ((f s).1 :: (docLoop f n (f s).2).1, (docLoop f n (f s).2).2)
def docRows (f : Rs → α × Rs) (s : Rs) : List α × Rs := docLoop f (docCount s).1 (docCount s).2
def DF (f : Rs → α × Rs) (e : α → List UInt8) (P : α → Prop) : Prop := ∀ x r, P x → f (e x ++ r, false) = (x, r, false)
variable {f : Rs → α × Rs} {g : Rs → β × Rs} {e : α → List UInt8} {k : β → List UInt8} {P : α → Prop} {Q : β → Prop}
theorem DF.seq (h : DF f e P) (i : DF g k Q) : DF (docSeq f g) (fun x => e x.1 ++ k x.2) (fun x => P x.1 ∧ Q x.2) := fun x r hx => by
  unfold docSeq
  rw [List.append_assoc, h x.1 _ hx.1]
  simp only
  rw [i x.2 r hx.2]
theorem DF.map (h : DF f e P) (u : α → β) (v : β → α) (h2 : ∀ y, Q y → P (v y) ∧ u (v y) = y) : DF (docMap u f) (fun y => e (v y)) Q := fun y r hy => by
  unfold docMap
  rw [h _ r (h2 y hy).1, (h2 y hy).2]
theorem DF.loop (h : DF f e P) : ∀ (l : List α) (r : List UInt8), (∀ x ∈ l, P x) → docLoop f l.length (l.flatMap e ++ r, false) = (l, r, false)
  | [], r, _ => rfl
  | x :: l, r, hp => by
    rw [List.length_cons, docLoop, if_neg (by simp), List.flatMap_cons, List.append_assoc, h x _ (hp x (by simp))]
    simp only
    rw [DF.loop h l r fun y hy => hp y (by simp [hy])]
end
theorem pow_seven (i : Nat) : 2 ^ (7 * i) = (128 : Nat) ^ i := by rw [Nat.pow_mul]
theorem dN_of : ∀ (b : List UInt8) (i a n : Nat) (r : List UInt8), i ≤ 9 → a < 128 ^ i → rdN i a b = some (n, r) → dN i a b = some (n, r, true)
  | [], i, a, n, r, _, _, h => by rw [rdN] at h; cases h
  | c :: b, i, a, n, r, hi, ha, h => by
    have hs := rdN_sound (c :: b) i a n r hi ha h
    obtain ⟨m, hm, _, _, hb⟩ := hs
    rw [rdN] at h
    have hc := c.toNat_lt
    rw [dN, if_neg (by omega)]
    have hp := pow_le hi
    have hp9 := pow9
    split at h
    · cases h
    · rename_i h1
      split at h
      · rename_i h2
        rw [if_pos h2]
        split at h
        · rename_i h3
          cases h
          rw [pow_seven, Nat.mod_eq_of_lt h2, Nat.mod_eq_of_lt hb]
          congr 3
          simp only [Bool.and_eq_true, Bool.or_eq_true, decide_eq_true_eq]
          omega
        · cases h
      · rename_i h2
        rw [if_neg h2]
        have hne : i ≠ 9 := fun e => by omega
        have ha2 : a + (c.toNat - 128) * 128 ^ i < 128 ^ (i + 1) := by
          rw [Nat.pow_succ]
          have : (c.toNat - 128) * 128 ^ i ≤ 127 * 128 ^ i := Nat.mul_le_mul_right _ (by omega)
          omega
        have hp1 : (128 : Nat) ^ (i + 1) ≤ 9223372036854775808 := pow_le (by omega)
        have hq : c.toNat % 128 = c.toNat - 128 := by omega
        rw [pow_seven, hq, Nat.mod_eq_of_lt (by omega)]
        exact dN_of b (i + 1) _ n r (by omega) ha2 h
theorem df_num : DF docN numB u64T := fun n r h => by
  unfold docN
  simp only
  rw [dN_of _ 0 0 n r (by omega) (by simp) (rt_num.full n r h)]
  rfl
theorem df_int : DF docInt (fun n => numB (toU n)) i64T := fun n r h => by
  unfold docInt
  rw [df_num _ r (toI_toU h).1, (toI_toU h).2]
theorem df_signed : DF docSigned (fun n => numB (zzN n)) i64T := fun n r h => by
  unfold docSigned
  rw [df_num _ r (un_zz h).1, (un_zz h).2]
theorem count_of {n : Nat} {r : List UInt8} (h : u64T n) (hr : n ≤ r.length) : docCount (numB n ++ r, false) = (n, r, false) := by
  unfold docCount
  rw [df_num n r h, if_neg (by simp only; omega)]
theorem df_text : DF docText textC (fun s => u64T s.length) := fun s r h => by
  unfold docText textC
  rw [List.append_assoc, count_of h (by simp)]
  simp
theorem df_rows {α : Type} {f : Rs → α × Rs} {e : α → List UInt8} {P : α → Prop} (h : DF f e P) (he : ∀ x, P x → 0 < (e x).length) : DF (docRows f) (rowsC e) (fun l => u64T l.length ∧ ∀ x ∈ l, P x) := fun l r hl => by
  unfold docRows rowsC
  have := flat_le he l hl.2
  rw [List.append_assoc, count_of hl.1 (by simp only [List.length_append]; omega)]
  exact h.loop l r hl.2
def docVal : Nat → Rs → V × Rs
  | 0, s => (.mk 0 false 0 [] [] [], s.1, true)
  | d + 1, s => match s with
    | ([], _) => (.mk 0 false 0 [] [] [], [], true)
    | (c :: r, bad) => if bad = true then (.mk 0 false 0 [] [] [], c :: r, true) else
      if c.toNat = 0 then (.mk 0 false 0 [] [] [], r, false)
      else if c.toNat = 1 then (.mk 1 ((docN (r, false)).1 == 1) 0 [] [] [], (docN (r, false)).2.1, (docN (r, false)).2.2 || decide (1 < (docN (r, false)).1))
      else if c.toNat = 2 then (.mk 2 false (docSigned (r, false)).1 [] [] [], (docSigned (r, false)).2)
      else if c.toNat = 3 then (.mk 3 false 0 (docText (r, false)).1 [] [], (docText (r, false)).2)
      else if c.toNat = 4 then (.mk 4 false 0 [] [] (docRows (docVal d) (r, false)).1, (docRows (docVal d) (r, false)).2)
      else if c.toNat = 5 then (.mk 5 false 0 [] ((docRows (docSeq docText (docVal d)) (r, false)).1.map Prod.fst) ((docRows (docSeq docText (docVal d)) (r, false)).1.map Prod.snd), (docRows (docSeq docText (docVal d)) (r, false)).2)
      else if c.toNat = 6 ∨ c.toNat = 7 then (.mk (c.toNat : Int) false (docInt (r, false)).1 [] [] [], (docInt (r, false)).2)
      else (.mk (c.toNat : Int) false 0 [] [] [], r, true)
theorem df_val : ∀ d, DF (docVal d) valC (wfV d)
  | 0 => fun x r h => h.elim
  | d + 1 => fun v r h => by
    have ih := df_val d
    have hl := df_rows ih (fun x _ => valC_pos x)
    have hm := df_rows (df_text.seq ih) (fun x _ => by have := valC_pos x.2; rw [List.length_append]; omega)
    cases v with
    | mk k b n t ks l =>
      rw [wfV] at h
      rcases h with ⟨rfl, rfl, rfl, rfl, rfl, rfl⟩ | ⟨rfl, rfl, rfl, rfl, rfl⟩ | ⟨rfl, rfl, h1, rfl, rfl, rfl⟩ | ⟨rfl, rfl, rfl, h1, rfl, rfl⟩ | ⟨rfl, rfl, rfl, rfl, rfl, h1, h2⟩ | ⟨rfl, rfl, rfl, rfl, h1, h2, h3, h4⟩ | ⟨hk, rfl, h1, rfl, rfl, rfl⟩
      · rw [valC, if_neg (by decide), if_neg (by decide), if_neg (by decide), if_neg (by decide), if_neg (by decide), if_neg (by decide)]; rfl
      · rw [valC, if_pos rfl]
        cases b
        · have := df_num 0 r (by unfold u64T; decide)
          rw [numB_low (by decide)] at this
          have this' : docN ((0 : UInt8) :: r, false) = (0, r, false) := this
          rw [if_neg (by simp), List.cons_append, List.singleton_append, docVal, if_neg (by simp), if_neg (by decide), if_pos (by decide), this']; rfl
        · have := df_num 1 r (by unfold u64T; decide)
          rw [numB_low (by decide)] at this
          have this' : docN ((1 : UInt8) :: r, false) = (1, r, false) := this
          rw [if_pos rfl, List.cons_append, List.singleton_append, docVal, if_neg (by simp), if_neg (by decide), if_pos (by decide), this']; rfl
      · rw [valC, if_neg (by decide), if_pos rfl, List.cons_append, docVal, if_neg (by simp), if_neg (by decide), if_neg (by decide), if_pos (by decide), df_signed _ r h1]
      · rw [valC, if_neg (by decide), if_neg (by decide), if_pos rfl, List.cons_append, docVal, if_neg (by simp), if_neg (by decide), if_neg (by decide), if_neg (by decide), if_pos (by decide), df_text _ r h1]
      · rw [valC, if_neg (by decide), if_neg (by decide), if_neg (by decide), if_pos rfl, valsC_eq, List.cons_append, docVal, if_neg (by simp), if_neg (by decide), if_neg (by decide), if_neg (by decide), if_neg (by decide), if_pos (by decide)]
        have := hl l r ⟨h1, h2⟩
        unfold rowsC at this
        rw [this]
      · rw [valC, if_neg (by decide), if_neg (by decide), if_neg (by decide), if_neg (by decide), if_pos rfl, kvC_eq ks l h1, List.cons_append, docVal, if_neg (by simp), if_neg (by decide), if_neg (by decide), if_neg (by decide), if_neg (by decide), if_neg (by decide), if_pos (by decide)]
        have hz : (ks.zip l).length = l.length := by simp; omega
        have := hm (ks.zip l) r ⟨by rw [hz]; exact h2, fun p hp => ⟨h3 _ (mem_zip hp).1, h4 _ (mem_zip hp).2⟩⟩
        unfold rowsC at this
        rw [hz] at this
        rw [this]
        simp only
        rw [(zip_fst ks l h1).1, (zip_fst ks l h1).2]
      · rcases hk with rfl | rfl
        · rw [valC, if_neg (by decide), if_neg (by decide), if_neg (by decide), if_neg (by decide), if_neg (by decide), if_pos (by decide), List.cons_append, docVal, if_neg (by simp), if_neg (by decide), if_neg (by decide), if_neg (by decide), if_neg (by decide), if_neg (by decide), if_neg (by decide), if_pos (by decide), df_int _ r h1]
          rfl
        · rw [valC, if_neg (by decide), if_neg (by decide), if_neg (by decide), if_neg (by decide), if_neg (by decide), if_pos (by decide), List.cons_append, docVal, if_neg (by simp), if_neg (by decide), if_neg (by decide), if_neg (by decide), if_neg (by decide), if_neg (by decide), if_neg (by decide), if_pos (by decide), df_int _ r h1]
          rfl
def docProp : Rs → PropD × Rs := docMap (fun p => ⟨p.1, p.2⟩) (docSeq docText (docVal 64))
theorem df_prop : DF docProp propC wfP := by
  have h := df_text.seq (df_val 64)
  exact h.map (Q := wfP) (fun p => (⟨p.1, p.2⟩ : PropD)) (fun (p : PropD) => (p.key, p.val)) (fun y hy => ⟨hy, rfl⟩)
theorem df_props : DF (docRows docProp) (rowsC propC) wfPs := df_rows df_prop fun p _ => propC_pos p
theorem df_labels : DF (docRows docText) (rowsC textC) wfLs := df_rows df_text fun s _ => textC_pos s
def docNode : Rs → NodeD × Rs := docMap (fun p => ⟨p.1, p.2.1, p.2.2⟩) (docSeq docInt (docSeq (docRows docText) (docRows docProp)))
theorem df_node : DF docNode nodeC wfN := by
  have h := df_int.seq (df_labels.seq df_props)
  exact h.map (Q := wfN) (fun p => (⟨p.1, p.2.1, p.2.2⟩ : NodeD)) (fun (n : NodeD) => (n.id, n.labels, n.props)) (fun y hy => ⟨hy, rfl⟩)
def docRel : Rs → RelD × Rs := docMap (fun p => ⟨p.1, p.2.1, p.2.2.1, p.2.2.2.1, p.2.2.2.2⟩) (docSeq docInt (docSeq docInt (docSeq docInt (docSeq docText (docRows docProp)))))
theorem df_rel : DF docRel relC wfR := by
  have h := df_int.seq (df_int.seq (df_int.seq (df_text.seq df_props)))
  exact h.map (Q := wfR) (fun p => (⟨p.1, p.2.1, p.2.2.1, p.2.2.2.1, p.2.2.2.2⟩ : RelD)) (fun (r : RelD) => (r.id, r.src, r.dst, r.type, r.props)) (fun y hy => ⟨hy, rfl⟩)
def docGraph : Rs → GraphD × Rs := docMap (fun p => ⟨p.1, p.2.1, p.2.2.1, p.2.2.2⟩) (docSeq (docRows docNode) (docSeq (docRows docRel) (docSeq docInt docInt)))
theorem df_graph : DF docGraph graphC wfG := by
  have h := (df_rows df_node fun n _ => nodeC_pos n).seq ((df_rows df_rel fun r _ => relC_pos r).seq (df_int.seq df_int))
  exact h.map (Q := wfG) (fun p => (⟨p.1, p.2.1, p.2.2.1, p.2.2.2⟩ : GraphD)) (fun (g : GraphD) => (g.nodes, g.rels, g.nextNode, g.nextRel)) (fun y hy => ⟨hy, rfl⟩)
end Go.Proofs.YthdfedfholmbmaaGreatDoor

namespace Go.Proofs.YthdfedfholmbmaaGreatDoor
structure DS {α : Type} (f : Rs → α × Rs) (sz : α → Nat) (R : α → Prop) : Prop where
  less : ∀ s, (f s).2.1.length ≤ s.1.length
  bad : ∀ s, s.2 = true → (f s).2.2 = true
  size : ∀ s, (f s).2.2 = false → sz (f s).1 + (f s).2.1.length ≤ s.1.length
  rng : ∀ s, R (f s).1
theorem dN_len : ∀ (b : List UInt8) (i a n : Nat) (r : List UInt8) (ok : Bool), dN i a b = some (n, r, ok) → r.length + 1 ≤ b.length ∧ n < 18446744073709551616
  | [], i, a, n, r, ok, h => by rw [dN] at h; cases h
  | c :: b, i, a, n, r, ok, h => by
    rw [dN] at h
    split at h
    · cases h
    · split at h
      · cases h
        exact ⟨by simp, Nat.mod_lt _ (by decide)⟩
      · have := dN_len b _ _ _ _ _ h
        rw [List.length_cons]; omega
theorem ds_num : DS docN (fun _ => 1) u64T := by
  refine ⟨fun s => ?_, fun s h => ?_, fun s h => ?_, fun s => ?_⟩
  all_goals
    unfold docN at *
    cases e : dN 0 0 s.1 with
    | none => simp_all [u64T]
    | some x =>
      obtain ⟨n, r, ok⟩ := x
      have := dN_len _ _ _ _ _ _ e
      simp only [e] at *
      try simp only [h, Bool.true_or]
      try unfold u64T
      first | omega | rfl | skip
theorem ds_count : DS docCount (fun _ => 1) u64T := by
  refine ⟨fun s => ?_, fun s h => ?_, fun s h => ?_, fun s => ?_⟩
  · unfold docCount; split
    · exact ds_num.less s
    · exact ds_num.less s
  · unfold docCount; split
    · rfl
    · exact ds_num.bad s h
  · unfold docCount at *; split at h
    · cases h
    · rename_i hn; rw [if_neg hn]; exact ds_num.size s h
  · unfold docCount; split
    · exact (by unfold u64T; omega : u64T 0)
    · exact ds_num.rng s
theorem count_le (s : Rs) : (docCount s).1 ≤ (docCount s).2.1.length := by
  unfold docCount; split
  · exact Nat.zero_le _
  · omega
theorem ds_text : DS docText (fun t => 1 + t.length) (fun t => True) := by
  refine ⟨fun s => ?_, fun s h => ?_, fun s h => ?_, fun s => trivial⟩
  · unfold docText
    have := ds_count.less s
    simp only [List.length_drop]; omega
  · exact ds_count.bad s h
  · have h1 := ds_count.size s h
    have h2 := count_le s
    unfold docText
    simp only [List.length_drop, List.length_take]; omega
theorem ds_int : DS docInt (fun _ => 1) i64T := ⟨fun s => ds_num.less s, fun s h => ds_num.bad s h, fun s h => ds_num.size s h, fun s => (toU_toI (ds_num.rng s)).1⟩
theorem ds_signed : DS docSigned (fun _ => 1) i64T := ⟨fun s => ds_num.less s, fun s h => ds_num.bad s h, fun s h => ds_num.size s h, fun s => (zz_un (ds_num.rng s)).1⟩
section
variable {α β : Type} {f : Rs → α × Rs} {g : Rs → β × Rs} {sz : α → Nat} {tz : β → Nat} {R : α → Prop} {T : β → Prop}
theorem bad_false {f : Rs → α × Rs} (h : ∀ s, s.2 = true → (f s).2.2 = true) {s : Rs} (e : (f s).2.2 = false) : s.2 = false := by
  cases hs : s.2
  · rfl
  · rw [h s hs] at e; cases e
theorem DS.seq (h : DS f sz R) (k : DS g tz T) : DS (docSeq f g) (fun x => sz x.1 + tz x.2) (fun x => R x.1 ∧ T x.2) := by
  refine ⟨fun s => Nat.le_trans (k.less _) (h.less s), fun s hs => k.bad _ (h.bad s hs), fun s hs => ?_, fun s => ⟨h.rng s, k.rng _⟩⟩
  have h1 := k.size _ hs
  have h2 := h.size s (bad_false k.bad hs)
  unfold docSeq at *
  simp only at *
  omega
theorem DS.map (h : DS f sz R) (u : α → β) (hs : ∀ x, tz (u x) ≤ sz x) (hr : ∀ x, R x → T (u x)) : DS (docMap u f) tz T :=
  ⟨fun s => h.less s, fun s hb => h.bad s hb, fun s hb => by have := h.size s hb; have := hs (f s).1; unfold docMap; simp only; omega, fun s => hr _ (h.rng s)⟩
theorem DS.loop (h : DS f sz R) : ∀ (n : Nat) (s : Rs), (docLoop f n s).2.1.length ≤ s.1.length ∧ (s.2 = true → (docLoop f n s).2.2 = true) ∧ ((docLoop f n s).2.2 = false → ((docLoop f n s).1.map sz).sum + (docLoop f n s).2.1.length ≤ s.1.length) ∧ (∀ x ∈ (docLoop f n s).1, R x) ∧ (docLoop f n s).1.length ≤ n
  | 0, s => ⟨Nat.le_refl _, fun h => h, fun _ => by simp [docLoop], fun x hx => by simp [docLoop] at hx, by simp [docLoop]⟩
  | n + 1, s => by
    cases e : s.2
    · have hs : docLoop f (n + 1) s = ((f s).1 :: (docLoop f n (f s).2).1, (docLoop f n (f s).2).2) := by rw [docLoop, if_neg (by rw [e]; decide)]
      obtain ⟨k1, k2, k3, k4, k5⟩ := DS.loop h n (f s).2
      have h0 := h.less s
      rw [hs]
      refine ⟨?_, fun h => Bool.noConfusion h, fun hb => ?_, fun x hx => ?_, ?_⟩
      · simp only; omega
      · have h1 := k3 hb
        have hf : (f s).2.2 = false := by
          cases e2 : (f s).2.2
          · rfl
          · have := k2 e2
            simp only at hb
            rw [this] at hb; cases hb
        have h2 := h.size s hf
        simp only [List.map_cons, List.sum_cons]
        omega
      · rcases List.mem_cons.1 hx with rfl | hx
        · exact h.rng s
        · exact k4 x hx
      · simp only [List.length_cons]; omega
    · have hs : docLoop f (n + 1) s = ([], s) := by rw [docLoop, if_pos e]
      rw [hs]
      exact ⟨Nat.le_refl _, fun _ => e, fun hb => (by rw [show s.2 = false from hb] at e; cases e), fun x hx => (by cases hx), Nat.zero_le _⟩
theorem DS.rows (h : DS f sz R) : DS (docRows f) (fun l => 1 + (l.map sz).sum) (fun l => ∀ x ∈ l, R x) := by
  refine ⟨fun s => Nat.le_trans (h.loop _ _).1 (ds_count.less s), fun s hb => (h.loop _ _).2.1 (ds_count.bad s hb), fun s hb => ?_, fun s => (h.loop _ _).2.2.2.1⟩
  have h1 := (h.loop _ _).2.2.1 hb
  have h2 := ds_count.size s (by
    cases e2 : (docCount s).2.2
    · rfl
    · have := (h.loop (docCount s).1 _).2.1 e2
      unfold docRows at hb
      rw [this] at hb; cases hb)
  unfold docRows at *
  omega
end
theorem rngV_of {v : V} (h : i64T v.n) (g : ∀ x ∈ v.list, rngV x) : rngV v := by
  cases v
  exact rngV_mk.2 ⟨h, rngVs_iff.2 g⟩
theorem sum_totVs : ∀ l : List V, (l.map totV).sum = totVs l
  | [] => rfl
  | a :: l => by rw [List.map_cons, List.sum_cons, totVs_cons, sum_totVs l]
theorem sum_pairs : ∀ l : List (List UInt8 × V), (l.map fun x => 1 + x.1.length + totV x.2).sum = l.length + ((l.map Prod.fst).map List.length).sum + totVs (l.map Prod.snd)
  | [] => rfl
  | a :: l => by
    simp only [List.map_cons, List.sum_cons, List.length_cons, totVs_cons]
    rw [sum_pairs l]; omega
theorem i64_zero : i64T 0 := by unfold i64T; omega
theorem ds_val : ∀ d, DS (docVal d) totV rngV
  | 0 => ⟨fun s => Nat.le_refl _, fun s _ => rfl, fun s h => (by rw [docVal] at h; cases h), fun s => (by rw [docVal]; exact rngV_of i64_zero (fun x hx => by cases hx))⟩
  | d + 1 => by
    have ih := ds_val d
    have hl := ih.rows
    have hm := (ds_text.seq ih).rows
    refine ⟨fun s => ?_, fun s h => ?_, fun s h => ?_, fun s => ?_⟩
    · obtain ⟨b, bad⟩ := s
      cases b with
      | nil => rw [docVal]; exact Nat.le_refl _
      | cons c r =>
        rw [docVal]
        repeat' split
        all_goals simp only [List.length_cons]
        · omega
        · omega
        · have := ds_num.less (r, false); simp only at this; omega
        · have := ds_signed.less (r, false); simp only at this; omega
        · have := ds_text.less (r, false); simp only at this; omega
        · have := hl.less (r, false); simp only at this; omega
        · have := hm.less (r, false); simp only at this; omega
        · have := ds_int.less (r, false); simp only at this; omega
        · omega
    · obtain ⟨b, bad⟩ := s
      have h' : bad = true := h
      subst h'
      cases b with
      | nil => rw [docVal]
      | cons c r => rw [docVal, if_pos rfl]
    · obtain ⟨b, bad⟩ := s
      cases b with
      | nil => rw [docVal] at h; cases h
      | cons c r =>
        rw [docVal] at h ⊢
        by_cases hb : bad = true
        · rw [if_pos hb] at h; cases h
        · rw [if_neg hb] at h ⊢
          by_cases h0 : c.toNat = 0
          · rw [if_pos h0] at h ⊢
            simp only [totV_eq, V.text, V.keys, V.list, totVs, List.length_cons, List.length_nil, List.map_nil, List.sum_nil]; omega
          · rw [if_neg h0] at h ⊢
            by_cases h1 : c.toNat = 1
            · rw [if_pos h1] at h ⊢
              simp only [Bool.or_eq_false_iff] at h
              have := ds_num.size (r, false) h.1
              simp only [totV_eq, V.text, V.keys, V.list, totVs, List.length_cons, List.length_nil, List.map_nil, List.sum_nil] at this ⊢; omega
            · rw [if_neg h1] at h ⊢
              by_cases h2 : c.toNat = 2
              · rw [if_pos h2] at h ⊢
                have := ds_signed.size (r, false) h
                simp only [totV_eq, V.text, V.keys, V.list, totVs, List.length_cons, List.length_nil, List.map_nil, List.sum_nil] at this ⊢; omega
              · rw [if_neg h2] at h ⊢
                by_cases h3 : c.toNat = 3
                · rw [if_pos h3] at h ⊢
                  have := ds_text.size (r, false) h
                  simp only [totV_eq, V.text, V.keys, V.list, totVs, List.length_cons, List.length_nil, List.map_nil, List.sum_nil] at this ⊢; omega
                · rw [if_neg h3] at h ⊢
                  by_cases h4 : c.toNat = 4
                  · rw [if_pos h4] at h ⊢
                    have := hl.size (r, false) h
                    simp only [sum_totVs] at this
                    simp only [totV_eq, V.text, V.keys, V.list, List.length_cons, List.length_nil, List.map_nil, List.sum_nil] at this ⊢; omega
                  · rw [if_neg h4] at h ⊢
                    by_cases h5 : c.toNat = 5
                    · rw [if_pos h5] at h ⊢
                      have := hm.size (r, false) h
                      simp only [sum_pairs] at this
                      simp only [totV_eq, V.text, V.keys, V.list, List.length_cons, List.length_nil, List.length_map] at this ⊢; omega
                    · rw [if_neg h5] at h ⊢
                      by_cases h6 : c.toNat = 6 ∨ c.toNat = 7
                      · rw [if_pos h6] at h ⊢
                        have := ds_int.size (r, false) h
                        simp only [totV_eq, V.text, V.keys, V.list, totVs, List.length_cons, List.length_nil, List.map_nil, List.sum_nil] at this ⊢; omega
                      · rw [if_neg h6] at h; cases h
    · obtain ⟨b, bad⟩ := s
      cases b with
      | nil => rw [docVal]; exact rngV_of i64_zero (fun x hx => by cases hx)
      | cons c r =>
        rw [docVal]
        repeat' split
        · exact rngV_of i64_zero (fun x hx => by cases hx)
        · exact rngV_of i64_zero (fun x hx => by cases hx)
        · exact rngV_of i64_zero (fun x hx => by cases hx)
        · exact rngV_of (ds_signed.rng _) (fun x hx => by cases hx)
        · exact rngV_of i64_zero (fun x hx => by cases hx)
        · exact rngV_of i64_zero (hl.rng _)
        · refine rngV_of i64_zero fun x hx => ?_
          obtain ⟨p, hp, rfl⟩ := List.mem_map.1 hx
          exact (hm.rng _ p hp).2
        · exact rngV_of (ds_int.rng _) (fun x hx => by cases hx)
        · exact rngV_of i64_zero (fun x hx => by cases hx)
def totP (p : PropD) : Nat := 1 + p.key.length + totV p.val
def totPs (l : List PropD) : Nat := (l.map totP).sum
def totLs (l : List (List UInt8)) : Nat := (l.map fun s => 1 + s.length).sum
def totN (n : NodeD) : Nat := 1 + totLs n.labels + totPs n.props
def totR (r : RelD) : Nat := 1 + r.type.length + totPs r.props
def totG (g : GraphD) : Nat := (g.nodes.map totN).sum + (g.rels.map totR).sum
def totC (c : ChangeD) : Nat := totN c.node + totR c.rel
def rngP (p : PropD) : Prop := rngV p.val
def rngN (n : NodeD) : Prop := i64T n.id ∧ ∀ p ∈ n.props, rngP p
def rngR (r : RelD) : Prop := i64T r.id ∧ i64T r.src ∧ i64T r.dst ∧ ∀ p ∈ r.props, rngP p
def rngG (g : GraphD) : Prop := (∀ n ∈ g.nodes, rngN n) ∧ (∀ r ∈ g.rels, rngR r) ∧ i64T g.nextNode ∧ i64T g.nextRel
def rngC (c : ChangeD) : Prop := i64T c.kind ∧ i64T c.id ∧ i64T c.other ∧ rngN c.node ∧ rngR c.rel
theorem ds_prop : DS docProp totP rngP := by
  have h := ds_text.seq (ds_val 64)
  exact h.map (fun p => (⟨p.1, p.2⟩ : PropD)) (fun x => by unfold totP; simp only; omega) (fun x hx => hx.2)
theorem ds_props : DS (docRows docProp) (fun l => 1 + totPs l) (fun l => ∀ p ∈ l, rngP p) := ds_prop.rows
theorem ds_node : DS docNode totN rngN := by
  have h := ds_int.seq (ds_text.rows.seq ds_props)
  exact h.map (fun p => (⟨p.1, p.2.1, p.2.2⟩ : NodeD)) (fun x => by unfold totN totLs; simp only; omega) (fun x hx => ⟨hx.1, hx.2.2⟩)
theorem ds_rel : DS docRel totR rngR := by
  have h := ds_int.seq (ds_int.seq (ds_int.seq (ds_text.seq ds_props)))
  exact h.map (fun p => (⟨p.1, p.2.1, p.2.2.1, p.2.2.2.1, p.2.2.2.2⟩ : RelD)) (fun x => by unfold totR; simp only; omega) (fun x hx => ⟨hx.1, hx.2.1, hx.2.2.1, hx.2.2.2.2⟩)
theorem ds_graph : DS docGraph totG rngG := by
  have h := ds_node.rows.seq (ds_rel.rows.seq (ds_int.seq ds_int))
  exact h.map (fun p => (⟨p.1, p.2.1, p.2.2.1, p.2.2.2⟩ : GraphD)) (fun x => by unfold totG; simp only; omega) (fun x hx => ⟨hx.1, hx.2.1, hx.2.2.1, hx.2.2.2⟩)
theorem rng_node0 : rngN node0 := ⟨i64_zero, fun p hp => by cases hp⟩
theorem rng_rel0 : rngR rel0 := ⟨i64_zero, i64_zero, i64_zero, fun p hp => by cases hp⟩
theorem totN_pos (n : NodeD) : 1 ≤ totN n := by unfold totN; omega
theorem totR_pos (r : RelD) : 1 ≤ totR r := by unfold totR; omega
end Go.Proofs.YthdfedfholmbmaaGreatDoor

namespace Go.Proofs.YthdfedfholmbmaaGreatDoor
open Go.RowKit
theorem ones_append {a b : Array Value} (h : ∀ u ∈ a.toList, u.oneCell' = true) (g : ∀ u ∈ b.toList, u.oneCell' = true) : ∀ u ∈ (a ++ b).toList, u.oneCell' = true := fun u hu => by
  rw [Array.toList_append, List.mem_append] at hu
  rcases hu with hu | hu
  · exact h u hu
  · exact g u hu
def POwn (w : World) (P : Nat → Prop) (p : PropD) (x : Array Value) : Prop := ∃ y, x = #[.string (strB p.key)] ++ y ∧ VOwn w P p.val y
theorem el_prop : EL POwn 7 := by
  refine ⟨?_, ?_, ?_, ?_⟩
  · rintro w w' P p a hk ⟨y, rfl, h⟩; exact ⟨y, rfl, h.keep hk⟩
  · rintro w P P' p a hp ⟨y, rfl, h⟩; exact ⟨y, rfl, h.imp hp⟩
  · rintro w P p a ⟨y, rfl, h⟩; rw [Array.size_append, h.size6]; rfl
  · rintro w P p a ⟨y, rfl, h⟩; exact ones_append (by simp [Value.oneCell']) h.ones
def NOwn (w : World) (P : Nat → Prop) (n : NodeD) (x : Array Value) : Prop := ∃ vl vp, x = #[.int .i64 n.id, vl, vp] ∧ OwnsP w P 9 1 vl n.labels.length (n.labels.map strV) ∧ GOwn POwn 136 7 w P vp n.props
theorem el_node : EL NOwn 3 := by
  refine ⟨?_, ?_, ?_, ?_⟩
  · rintro w w' P p a hk ⟨vl, vp, rfl, h1, h2⟩; exact ⟨vl, vp, rfl, h1.keep hk, h2.keep el_prop hk⟩
  · rintro w P P' p a hp ⟨vl, vp, rfl, h1, h2⟩; exact ⟨vl, vp, rfl, h1.imp hp, h2.imp el_prop hp⟩
  · rintro w P p a ⟨vl, vp, rfl, h1, h2⟩; rfl
  · rintro w P p a ⟨vl, vp, rfl, h1, xs, h2, _⟩ u hu
    have e1 := own_one h1
    have e2 := own_one h2
    simp only [List.mem_cons, List.not_mem_nil, or_false] at hu
    rcases hu with rfl | rfl | rfl <;> first | rfl | assumption
def ROwn (w : World) (P : Nat → Prop) (r : RelD) (x : Array Value) : Prop := ∃ vp, x = #[.int .i64 r.id, .int .i64 r.src, .int .i64 r.dst, .string (strB r.type), vp] ∧ GOwn POwn 136 7 w P vp r.props
theorem el_rel : EL ROwn 5 := by
  refine ⟨?_, ?_, ?_, ?_⟩
  · rintro w w' P p a hk ⟨vp, rfl, h2⟩; exact ⟨vp, rfl, h2.keep el_prop hk⟩
  · rintro w P P' p a hp ⟨vp, rfl, h2⟩; exact ⟨vp, rfl, h2.imp el_prop hp⟩
  · rintro w P p a ⟨vp, rfl, h2⟩; rfl
  · rintro w P p a ⟨vp, rfl, xs, h2, _⟩ u hu
    have e2 := own_one h2
    simp only [List.mem_cons, List.not_mem_nil, or_false] at hu
    rcases hu with rfl | rfl | rfl | rfl | rfl <;> first | rfl | assumption
def COwn (w : World) (P : Nat → Prop) (c : ChangeD) (x : Array Value) : Prop := ∃ a b, x = #[.int .i64 c.kind, .int .i64 c.id, .int .i64 c.other] ++ a ++ b ∧ NOwn w P c.node a ∧ ROwn w P c.rel b
def GrOwn (w : World) (P : Nat → Prop) (g : GraphD) (x : Array Value) : Prop := ∃ vn vr, x = #[vn, vr, .int .i64 g.nextNode, .int .i64 g.nextRel] ∧ GOwn NOwn 70 3 w P vn g.nodes ∧ GOwn ROwn 72 5 w P vr g.rels
def PRd (w : World) (p : PropD) (x : Array Value) : Prop := ∃ y, x = #[.string (strB p.key)] ++ y ∧ p.key.length ≤ 140737488355328 ∧ VRd w p.val y
def NRd (w : World) (n : NodeD) (x : Array Value) : Prop := ∃ pl cl pp cp, x = #[.int .i64 n.id, .slice pl n.labels.length cl, .slice pp n.props.length cp] ∧ RdS w pl cl n.labels ∧ GRd PRd 7 w pp cp n.props
def RRd (w : World) (r : RelD) (x : Array Value) : Prop := ∃ pp cp, x = #[.int .i64 r.id, .int .i64 r.src, .int .i64 r.dst, .string (strB r.type), .slice pp r.props.length cp] ∧ r.type.length ≤ 140737488355328 ∧ GRd PRd 7 w pp cp r.props
def CRd (w : World) (c : ChangeD) (x : Array Value) : Prop := ∃ a b, x = #[.int .i64 c.kind, .int .i64 c.id, .int .i64 c.other] ++ a ++ b ∧ NRd w c.node a ∧ RRd w c.rel b
def GrRd (w : World) (g : GraphD) (x : Array Value) : Prop := ∃ pn cn pr cr, x = #[.slice pn g.nodes.length cn, .slice pr g.rels.length cr, .int .i64 g.nextNode, .int .i64 g.nextRel] ∧ GRd NRd 3 w pn cn g.nodes ∧ GRd RRd 5 w pr cr g.rels
section
variable {w w' : World}
theorem PRd.below {p : PropD} {x : Array Value} (h : PRd w p x) (g : Below w.heap.size w w') : PRd w' p x := by
  obtain ⟨y, e, h1, h2⟩ := h; exact ⟨y, e, h1, h2.below g⟩
theorem NRd.below {p : NodeD} {x : Array Value} (h : NRd w p x) (g : Below w.heap.size w w') : NRd w' p x := by
  obtain ⟨pl, cl, pp, cp, e, h1, h2⟩ := h; exact ⟨pl, cl, pp, cp, e, h1.below g, h2.below (fun h => h.below g) g⟩
theorem RRd.below {p : RelD} {x : Array Value} (h : RRd w p x) (g : Below w.heap.size w w') : RRd w' p x := by
  obtain ⟨pp, cp, e, h1, h2⟩ := h; exact ⟨pp, cp, e, h1, h2.below (fun h => h.below g) g⟩
theorem CRd.below {p : ChangeD} {x : Array Value} (h : CRd w p x) (g : Below w.heap.size w w') : CRd w' p x := by
  obtain ⟨a, b, e, h1, h2⟩ := h; exact ⟨a, b, e, h1.below g, h2.below g⟩
theorem GrRd.below {p : GraphD} {x : Array Value} (h : GrRd w p x) (g : Below w.heap.size w w') : GrRd w' p x := by
  obtain ⟨pn, cn, pr, cr, e, h1, h2⟩ := h; exact ⟨pn, cn, pr, cr, e, h1.below (fun h => h.below g) g, h2.below (fun h => h.below g) g⟩
theorem POwn.rd {P : Nat → Prop} {p : PropD} {x : Array Value} (h : POwn w P p x) (ht : totP p ≤ 900000) : PRd w p x := by
  obtain ⟨y, e, h1⟩ := h
  unfold totP at ht
  exact ⟨y, e, by omega, h1.rd (by omega)⟩
theorem props_rd {P : Nat → Prop} {vp : Value} {l : List PropD} (h : GOwn POwn 136 7 w P vp l) (ht : totPs l ≤ 900000) : ∃ p c, vp = .slice p l.length c ∧ GRd PRd 7 w p c l := by
  have h1 : l.length ≤ totPs l := by
    clear h ht
    induction l with
    | nil => simp
    | cons a l ih => rw [totPs, List.map_cons, List.sum_cons, List.length_cons]; have : 1 ≤ totP a := by unfold totP; omega
                     unfold totPs at ih; omega
  refine h.rd el_prop (by omega) fun p hp x hx => hx.rd ?_
  have : totP p ≤ totPs l := by
    clear h ht h1 hx
    induction l with
    | nil => cases hp
    | cons a l ih =>
      rw [totPs, List.map_cons, List.sum_cons]
      unfold totPs at ih
      rcases List.mem_cons.1 hp with rfl | hp
      · omega
      · have := ih hp; omega
  omega
theorem NOwn.rd {P : Nat → Prop} {n : NodeD} {x : Array Value} (h : NOwn w P n x) (ht : totN n ≤ 900000) : NRd w n x := by
  obtain ⟨vl, vp, e, h1, h2⟩ := h
  unfold totN at ht
  have hl : n.labels.length ≤ totLs n.labels ∧ ∀ s ∈ n.labels, s.length ≤ totLs n.labels := by
    generalize n.labels = l
    induction l with
    | nil => simp
    | cons a l ih =>
      unfold totLs at ih ⊢
      rw [List.map_cons, List.sum_cons, List.length_cons]
      refine ⟨by omega, fun s hs => ?_⟩
      rcases List.mem_cons.1 hs with rfl | hs
      · omega
      · have := ih.2 s hs; omega
  obtain ⟨pl, cl, rfl, h3⟩ := owned_rdS h1 (by omega) (fun s hs => by have := hl.2 s hs; omega)
  obtain ⟨pp, cp, rfl, h4⟩ := props_rd h2 (by omega)
  exact ⟨pl, cl, pp, cp, e, h3, h4⟩
theorem ROwn.rd {P : Nat → Prop} {r : RelD} {x : Array Value} (h : ROwn w P r x) (ht : totR r ≤ 900000) : RRd w r x := by
  obtain ⟨vp, e, h2⟩ := h
  unfold totR at ht
  obtain ⟨pp, cp, rfl, h4⟩ := props_rd h2 (by omega)
  exact ⟨pp, cp, e, by omega, h4⟩
end
end Go.Proofs.YthdfedfholmbmaaGreatDoor

namespace Go.Proofs.YthdfedfholmbmaaGreatDoor
open Go.ChangeShapes Go.WideShapes Go.ChangeAt Go.RowKit Go.Joins
section
variable {H : Type} {enc : TypeId × Value → H} {w : World} {base : Nat} {held : Bool}
theorem rows_of {α : Type} [Inhabited α] {F : World → α → Array Value → Prop} {R : α → Prop} {K : Nat} {T e : TypeId} (hT : Tryz.prog.underlying T = some (.slice e)) (hk : Tryz.prog.cellsOf e = K) (hK : 0 < K) (hby : 1 ≤ Tryz.prog.bytesOf e)
    (one : ∀ (m : Nat) (cs : List Value) (x : DataW H × List MemPlace), DataW.trod enc Tryz.prog w base (fun _ => true) held m e cs = some x → Fits e x.1 → ∃ v, F w v cs.toArray ∧ R v)
    {fuel : Nat} {v0 : Value} {x : DataW H × List MemPlace} (h : DataW.trod enc Tryz.prog w base (fun _ => true) held fuel T [v0] = some x) (hf : Fits T x.1) :
    ∃ p c l, v0 = .slice p (List.length l) c ∧ GRd F K w p c l ∧ ∀ v ∈ l, R v := by
  rcases DataW.trod_slice hT h with ⟨hv, _⟩ | ⟨a, len, cap, elems, rest, m, rfl, hv, e5, _, hle, hm, hel, helt, _, _⟩
  · cases hv
    exact ⟨none, 0, [], rfl, ⟨⟨Nat.le_refl _, by simp, fun _ => rfl⟩, fun ad h => by cases h⟩, by simp⟩
  · cases hv
    rw [e5] at hf
    obtain ⟨g1, g2⟩ := fits_slice hT hf
    rw [hk] at helt
    have hlenE : (elems.map (·.1)).length = len := by simpa using hel
    rw [hlenE] at g1
    have hl0 : len ≤ 140737488351232 := Nat.le_trans (Nat.le_mul_of_pos_right len hby) g1
    obtain ⟨f, hfv⟩ := Go.Deep.choose_lt (n := len) (α := α) (p := fun i v => ∃ cs', w.cells? base (a.add (i * K)) K = some cs' ∧ F w v cs'.toArray ∧ R v) (fun i hi => by
      have hi2 : i < elems.length := by omega
      have h1 := helt i hi
      rw [List.getElem?_eq_getElem hi2] at h1
      obtain ⟨cs', h2, h3⟩ := Option.bind_eq_some_iff.1 h1
      obtain ⟨v, hv1, hv2⟩ := one m cs' elems[i] h3 (g2 _ (List.mem_map.2 ⟨elems[i], List.getElem_mem hi2, rfl⟩))
      exact ⟨v, cs', h2, hv1, hv2⟩)
    have hspot : 0 < len → a.spot = none := fun h0 => by
      obtain ⟨cs', h1, _⟩ := hfv 0 h0
      obtain ⟨_, hcl, hc⟩ := World.cells?_some h1
      have h3 := hc 0 (by omega)
      rw [List.getElem?_eq_getElem (by omega)] at h3
      have := World.cell?_spot h3
      simpa [Addr.add] using this
    have hll : ((List.range len).map f).length = len := by simp
    refine ⟨some a, cap, (List.range len).map f, by rw [hll], ⟨⟨by rw [hll]; exact hle, by rw [hll]; exact ⟨by omega, hm⟩, fun e => by cases e⟩, fun ad had => ?_⟩, fun v hv => ?_⟩
    · cases had
      refine ⟨fun hne => hspot ?_, fun j v hv => ?_⟩
      · rcases Nat.eq_zero_or_pos len with h0 | h0
        · exact absurd (List.eq_nil_of_length_eq_zero (by rw [hll]; exact h0)) hne
        · exact h0
      · have hj : j < len := by
          have := (List.getElem?_eq_some_iff.1 hv).1
          rwa [hll] at this
        have e : v = f j := by
          have := (List.getElem?_eq_some_iff.1 hv).2
          simpa using this.symm
        subst e
        obtain ⟨cs', h1, h2, _⟩ := hfv j hj
        have hs0 := hspot (by omega)
        obtain ⟨ab, ao, asp⟩ := a
        simp only at hs0
        subst hs0
        obtain ⟨_, hcl, hc⟩ := World.cells?_some h1
        refine ⟨cs'.toArray, by simpa using hcl, fun i u hu => ?_, h2⟩
        have hi : i < K := by
          have := (Array.getElem?_eq_some_iff.1 hu).1
          rw [← hcl]; simpa using this
        have q := hc i hi
        simp only [addr_add] at q
        rw [q]
        simpa using hu
    · obtain ⟨i, hi, rfl⟩ := List.mem_map.1 hv
      obtain ⟨_, _, _, h3⟩ := hfv i (List.mem_range.1 hi)
      exact h3
theorem cellsP : Tryz.prog.cellsOf 136 = 7 := by kernel_rfl
theorem cellsN : Tryz.prog.cellsOf 70 = 3 := by kernel_rfl
theorem cellsR : Tryz.prog.cellsOf 72 = 5 := by kernel_rfl
theorem cellsG : Tryz.prog.cellsOf 25 = 4 := by kernel_rfl
theorem cellsPs : Tryz.prog.cellsOf 68 = 1 := by kernel_rfl
theorem cellsNs : Tryz.prog.cellsOf 22 = 1 := by kernel_rfl
theorem cellsRs : Tryz.prog.cellsOf 23 = 1 := by kernel_rfl
instance : Inhabited PropD := ⟨⟨[], .mk 0 false 0 [] [] []⟩⟩
instance : Inhabited NodeD := ⟨⟨0, [], []⟩⟩
instance : Inhabited RelD := ⟨⟨0, 0, 0, [], []⟩⟩
instance : Inhabited ChangeD := ⟨⟨0, 0, 0, ⟨0, [], []⟩, ⟨0, 0, 0, [], []⟩⟩⟩
theorem prop_of (fuel : Nat) (cs : List Value) (x : DataW H × List MemPlace) (h : DataW.trod enc Tryz.prog w base (fun _ => true) held fuel 136 cs = some x) (hf : Fits 136 x.1) : ∃ v, PRd w v cs.toArray ∧ rngP v := by
  obtain ⟨xs, n, rfl, rfl, hl, hlen, hfl⟩ := DataW.trod_struct Tryz.underlying136 h
  rw [cellsP] at hl
  match xs, hlen with
  | [y0, y1], _ =>
    match cs, hl with
    | [c0, c1, c2, c3, c4, c5, c6], _ =>
      have k0 := hfl 0 _ rfl
      have k1 := hfl 1 _ rfl
      simp only [cells9, cells26, List.drop_zero, List.drop_succ_cons, List.take_succ_cons, List.take_zero, List.getElem?_cons_zero, List.getElem?_cons_succ] at k0 k1
      have hw : Fits 9 y0.1 ∧ Fits 48 y1.1 := by
        unfold Fits at hf
        rw [DataW.weights, Tryz.underlying136] at hf
        simp only [List.map_cons, List.map_nil, DataW.weightsEach, List.append_nil, List.mem_append] at hf
        exact ⟨fun n hn => hf n (by simp [hn]), fun n hn => hf n (by simp [hn])⟩
      obtain ⟨s, e0, e0', _⟩ := DataW.trod_string Tryz.underlying9 k0
      obtain ⟨v, hv1, hv2⟩ := value_of _ _ _ k1 hw.2
      obtain rfl : c0 = _ := (List.cons.inj e0).1
      have hs := hw.1
      rw [e0'] at hs
      have ht := fits_string hs
      refine ⟨⟨s.data.toList, v⟩, ⟨#[c1, c2, c3, c4, c5, c6], by rw [strB_back]; rfl, by simp only; omega, hv1⟩, hv2⟩
theorem bytesP : 1 ≤ Tryz.prog.bytesOf 136 := of_decide_eq_true (by kernel_rfl)
theorem bytesN : 1 ≤ Tryz.prog.bytesOf 70 := of_decide_eq_true (by kernel_rfl)
theorem bytesR : 1 ≤ Tryz.prog.bytesOf 72 := of_decide_eq_true (by kernel_rfl)
theorem props_of {fuel : Nat} {v0 : Value} {x : DataW H × List MemPlace} (h : DataW.trod enc Tryz.prog w base (fun _ => true) held fuel 68 [v0] = some x) (hf : Fits 68 x.1) : ∃ p c l, v0 = .slice p (List.length l) c ∧ GRd PRd 7 w p c l ∧ ∀ v ∈ l, rngP v :=
  rows_of Tryz.underlying68 cellsP (by omega) bytesP prop_of h hf
theorem node_of (fuel : Nat) (cs : List Value) (x : DataW H × List MemPlace) (h : DataW.trod enc Tryz.prog w base (fun _ => true) held fuel 70 cs = some x) (hf : Fits 70 x.1) : ∃ v, NRd w v cs.toArray ∧ rngN v := by
  obtain ⟨xs, n, rfl, rfl, hl, hlen, hfl⟩ := DataW.trod_struct Tryz.underlying70 h
  rw [cellsN] at hl
  match xs, hlen with
  | [y0, y1, y2], _ =>
    match cs, hl with
    | [c0, c1, c2], _ =>
      have k0 := hfl 0 _ rfl
      have k1 := hfl 1 _ rfl
      have k2 := hfl 2 _ rfl
      simp only [cells2, cells23, cellsPs, List.drop_zero, List.drop_succ_cons, List.take_succ_cons, List.take_zero, List.getElem?_cons_zero, List.getElem?_cons_succ] at k0 k1 k2
      have hw : Fits 45 y1.1 ∧ Fits 68 y2.1 := by
        unfold Fits at hf
        rw [DataW.weights, Tryz.underlying70] at hf
        simp only [List.map_cons, List.map_nil, DataW.weightsEach, List.append_nil, List.mem_append] at hf
        exact ⟨fun n hn => hf n (by simp [hn]), fun n hn => hf n (by simp [hn])⟩
      obtain ⟨i, e0, _, hr⟩ := DataW.trod_int Tryz.underlying2 k0
      obtain ⟨pk, ck, ks, rfl, hks⟩ := keys_of k1 hw.1
      obtain ⟨pp, cp, ps, rfl, hps, hpr⟩ := props_of k2 hw.2
      obtain rfl : c0 = _ := (List.cons.inj e0).1
      exact ⟨⟨i, ks, ps⟩, ⟨pk, ck, pp, cp, rfl, hks, hps⟩, int_rng hr, hpr⟩
theorem rel_of (fuel : Nat) (cs : List Value) (x : DataW H × List MemPlace) (h : DataW.trod enc Tryz.prog w base (fun _ => true) held fuel 72 cs = some x) (hf : Fits 72 x.1) : ∃ v, RRd w v cs.toArray ∧ rngR v := by
  obtain ⟨xs, n, rfl, rfl, hl, hlen, hfl⟩ := DataW.trod_struct Tryz.underlying72 h
  rw [cellsR] at hl
  match xs, hlen with
  | [y0, y1, y2, y3, y4], _ =>
    match cs, hl with
    | [c0, c1, c2, c3, c4], _ =>
      have k0 := hfl 0 _ rfl
      have k1 := hfl 1 _ rfl
      have k2 := hfl 2 _ rfl
      have k3 := hfl 3 _ rfl
      have k4 := hfl 4 _ rfl
      simp only [cells2, cells9, cellsPs, List.drop_zero, List.drop_succ_cons, List.take_succ_cons, List.take_zero, List.getElem?_cons_zero, List.getElem?_cons_succ] at k0 k1 k2 k3 k4
      have hw : Fits 9 y3.1 ∧ Fits 68 y4.1 := by
        unfold Fits at hf
        rw [DataW.weights, Tryz.underlying72] at hf
        simp only [List.map_cons, List.map_nil, DataW.weightsEach, List.append_nil, List.mem_append] at hf
        exact ⟨fun n hn => hf n (by simp [hn]), fun n hn => hf n (by simp [hn])⟩
      obtain ⟨i0, e0, _, r0⟩ := DataW.trod_int Tryz.underlying2 k0
      obtain ⟨i1, e1, _, r1⟩ := DataW.trod_int Tryz.underlying2 k1
      obtain ⟨i2, e2, _, r2⟩ := DataW.trod_int Tryz.underlying2 k2
      obtain ⟨s, e3, e3', _⟩ := DataW.trod_string Tryz.underlying9 k3
      obtain ⟨pp, cp, ps, rfl, hps, hpr⟩ := props_of k4 hw.2
      obtain rfl : c0 = _ := (List.cons.inj e0).1
      obtain rfl : c1 = _ := (List.cons.inj e1).1
      obtain rfl : c2 = _ := (List.cons.inj e2).1
      obtain rfl : c3 = _ := (List.cons.inj e3).1
      have hs := hw.1
      rw [e3'] at hs
      have ht := fits_string hs
      exact ⟨⟨i0, i1, i2, s.data.toList, ps⟩, ⟨pp, cp, by rw [strB_back], by simp only; omega, hps⟩, int_rng r0, int_rng r1, int_rng r2, hpr⟩
theorem nodes_of {fuel : Nat} {v0 : Value} {x : DataW H × List MemPlace} (h : DataW.trod enc Tryz.prog w base (fun _ => true) held fuel 22 [v0] = some x) (hf : Fits 22 x.1) : ∃ p c l, v0 = .slice p (List.length l) c ∧ GRd NRd 3 w p c l ∧ ∀ v ∈ l, rngN v :=
  rows_of Tryz.underlying22 cellsN (by omega) bytesN node_of h hf
theorem rels_of {fuel : Nat} {v0 : Value} {x : DataW H × List MemPlace} (h : DataW.trod enc Tryz.prog w base (fun _ => true) held fuel 23 [v0] = some x) (hf : Fits 23 x.1) : ∃ p c l, v0 = .slice p (List.length l) c ∧ GRd RRd 5 w p c l ∧ ∀ v ∈ l, rngR v :=
  rows_of Tryz.underlying23 cellsR (by omega) bytesR rel_of h hf
theorem graph_of (fuel : Nat) (cs : List Value) (x : DataW H × List MemPlace) (h : DataW.trod enc Tryz.prog w base (fun _ => true) held fuel 25 cs = some x) (hf : Fits 25 x.1) : ∃ v, GrRd w v cs.toArray ∧ rngG v := by
  obtain ⟨xs, n, rfl, rfl, hl, hlen, hfl⟩ := DataW.trod_struct Tryz.underlying25 h
  rw [cellsG] at hl
  match xs, hlen with
  | [y0, y1, y2, y3], _ =>
    match cs, hl with
    | [c0, c1, c2, c3], _ =>
      have k0 := hfl 0 _ rfl
      have k1 := hfl 1 _ rfl
      have k2 := hfl 2 _ rfl
      have k3 := hfl 3 _ rfl
      simp only [cells2, cellsNs, cellsRs, List.drop_zero, List.drop_succ_cons, List.take_succ_cons, List.take_zero, List.getElem?_cons_zero, List.getElem?_cons_succ] at k0 k1 k2 k3
      have hw : Fits 22 y0.1 ∧ Fits 23 y1.1 := by
        unfold Fits at hf
        rw [DataW.weights, Tryz.underlying25] at hf
        simp only [List.map_cons, List.map_nil, DataW.weightsEach, List.append_nil, List.mem_append] at hf
        exact ⟨fun n hn => hf n (by simp [hn]), fun n hn => hf n (by simp [hn])⟩
      obtain ⟨pn, cn, ns, rfl, hns, hnr⟩ := nodes_of k0 hw.1
      obtain ⟨pr, cr, rs, rfl, hrs, hrr⟩ := rels_of k1 hw.2
      obtain ⟨i2, e2, _, r2⟩ := DataW.trod_int Tryz.underlying2 k2
      obtain ⟨i3, e3, _, r3⟩ := DataW.trod_int Tryz.underlying2 k3
      obtain rfl : c2 = _ := (List.cons.inj e2).1
      obtain rfl : c3 = _ := (List.cons.inj e3).1
      exact ⟨⟨ns, rs, i2, i3⟩, ⟨pn, cn, pr, cr, rfl, hns, hrs⟩, hnr, hrr, int_rng r2, int_rng r3⟩
theorem graph_in {r : Reach} {b0 : Nat} {v : Value} {d : DataW H} {p : List MemPlace} (hv : Value.okWide Tryz.prog w r b0 25 v) (h : DataW.Trod enc Tryz.prog w base (fun _ => true) held 25 v d p) (hf : Fits 25 d) :
    ∃ u x, v = .agg x ∧ GrRd w u x ∧ rngG u := by
  obtain ⟨cs, rfl, _⟩ := okWide_struct Tryz.underlying25 hv
  obtain ⟨fuel, h⟩ := h
  obtain ⟨u, h1, h2⟩ := graph_of fuel _ _ h hf
  exact ⟨u, cs, rfl, by simpa [Value.cells] using h1, h2⟩
end
end Go.Proofs.YthdfedfholmbmaaGreatDoor

namespace Go.Proofs.YthdfedfholmbmaaGreatDoor
open Go.RowKit
theorem rd_rest {W : World} {a : Option Addr} {n c : Nat} {l : List UInt8} (h : RdB W (.slice a n c) l) {k : Nat} (hk : k ≤ n) :
    ∃ a', (∀ W', (Instr.slice 26 (.slice a n c) (some (.int .i64 (k : Int))) none none).run Tryz.prog W' = .ok (.slice a' (n - k) (c - k)) W') ∧ RdB W (.slice a' (n - k) (c - k)) (l.drop k) := by
  obtain ⟨a1, cap, heq, ⟨hn, hm, hz⟩, hcell⟩ := h
  cases heq
  refine ⟨_, fun W' => run_slice_gen (P := Tryz.prog) Tryz.underlying26 Tryz.sizeOf5 a _ c (some (k : Int)) none k l.length (fun i hi => by cases hi; rfl) (fun h => by cases h) (fun i hi => by cases hi) (fun _ => rfl) hk hn W', ?_⟩
  refine ⟨_, _, by rw [List.length_drop], ⟨by rw [List.length_drop]; omega, by omega, fun e => ?_⟩, fun ad had => ?_⟩
  · split at e
    · omega
    · cases a with
      | none => have := hz rfl; omega
      | some ad => cases e
  · split at had
    · rename_i hc
      subst had
      obtain ⟨hs, hcl⟩ := hcell ad rfl
      have hd : l.drop k = [] := List.drop_eq_nil_of_le (by omega)
      rw [hd]
      exact ⟨fun h => absurd rfl h, fun i b hi => by simp at hi⟩
    · cases a with
      | none => cases had
      | some ad0 =>
        obtain ⟨hs, hcl⟩ := hcell ad0 rfl
        by_cases hl0 : l = []
        · subst hl0
          exact ⟨fun h => absurd (by simp) h, fun i b hi => (by simp at hi)⟩
        replace hs := hs hl0
        obtain ⟨b0, o0, sp0⟩ := ad0
        simp only at hs; subst hs
        simp only [Option.map_some, addr_add, Option.some.injEq] at had
        subst had
        refine ⟨fun _ => rfl, fun i b hi => ?_⟩
        rw [List.getElem?_drop] at hi
        have := hcl (k + i) b hi
        simp only [Nat.mul_one] at this ⊢
        rw [Nat.add_assoc]; exact this
structure RSt (T : TypeId) (w W : World) (q : Nat) (l : List UInt8) : Prop where
  b : Below w.heap.size w W
  base : w.heap.size ≤ q
  box : ∃ p c, W.heap[q]? = some (.cells #[.slice p l.length c] T (0, 0)) ∧ RdB w (.slice p l.length c) l
structure RTo (q : Nat) (W W' : World) : Prop where
  size : W.heap.size ≤ W'.heap.size
  keep : ∀ b, b < W.heap.size → b ≠ q → W'.heap[b]? = W.heap[b]?
section
variable {T : TypeId} {w W W1 W' W'' : World} {q : Nat} {l m : List UInt8}
theorem RTo.refl (q : Nat) (W : World) : RTo q W W := ⟨Nat.le_refl _, fun _ _ _ => rfl⟩
theorem RTo.trans (h : RTo q W W') (g : RTo q W' W'') : RTo q W W'' := ⟨Nat.le_trans h.size g.size, fun b hb hq => (g.keep b (Nat.lt_of_lt_of_le hb h.size) hq).trans (h.keep b hb hq)⟩
theorem RTo.of_below (g : Below W.heap.size W W') : RTo q W W' := ⟨g.size, fun b hb _ => g.block b hb⟩
theorem RTo.set (q : Nat) (W : World) (u : Value) : RTo q W (W.setCell ⟨q, 0, none⟩ u) := ⟨by simp [World.setCell], fun b _ hq => Below.heap_setCell W ⟨q, 0, none⟩ u b hq⟩
theorem RSt.lt (h : RSt T w W q l) : q < W.heap.size := by obtain ⟨p, c, h1, _⟩ := h.box; exact (Array.getElem?_eq_some_iff.1 h1).1
theorem RSt.below (h : RSt T w W q l) (g : Below W.heap.size W W') : RSt T w W' q l := by
  obtain ⟨p, c, h1, h2⟩ := h.box
  exact ⟨below_trans h.b g, h.base, p, c, belowBlk g h.lt h1, h2⟩
theorem RSt.rest (h : RSt T w W q l) {k : Nat} (hk : k ≤ l.length) : ∃ p c p' c', W.heap[q]? = some (.cells #[.slice p l.length c] T (0, 0)) ∧ RdB W (.slice p l.length c) l ∧
    (∀ W', (Instr.slice 26 (.slice p l.length c) (some (.int .i64 (k : Int))) none none).run Tryz.prog W' = .ok (.slice p' (l.length - k) c') W') ∧
    RSt T w (W.setCell ⟨q, 0, none⟩ (.slice p' (l.length - k) c')) q (l.drop k) ∧ RTo q W (W.setCell ⟨q, 0, none⟩ (.slice p' (l.length - k) c')) := by
  obtain ⟨p, c, h1, h2⟩ := h.box
  obtain ⟨p', h3, h4⟩ := rd_rest h2 hk
  refine ⟨p, c, p', c - k, h1, h2.below h.b, h3, ⟨belowSet h.b h.base _, h.base, p', c - k, ?_, ?_⟩, RTo.set q W _⟩
  · rw [List.length_drop]
    exact heap_setCell_same W q 0 #[.slice p l.length c] T (.slice p' (l.length - k) (c - k)) h1
  · rw [List.length_drop]; exact h4
end
structure DSt (T : TypeId) (w W : World) (q : Nat) (l : List UInt8) (bad : Bool) : Prop where
  b : Below w.heap.size w W
  base : w.heap.size ≤ q
  box : ∃ p c, W.heap[q]? = some (.cells #[.slice p l.length c, .bool bad] T (0, 0)) ∧ RdB w (.slice p l.length c) l
section
variable {T : TypeId} {w W W1 W' W'' : World} {q : Nat} {l m : List UInt8} {bad : Bool}
theorem DSt.lt (h : DSt T w W q l bad) : q < W.heap.size := by obtain ⟨p, c, h1, _⟩ := h.box; exact (Array.getElem?_eq_some_iff.1 h1).1
theorem DSt.below (h : DSt T w W q l bad) (g : Below W.heap.size W W') : DSt T w W' q l bad := by
  obtain ⟨p, c, h1, h2⟩ := h.box
  exact ⟨below_trans h.b g, h.base, p, c, belowBlk g h.lt h1, h2⟩
theorem RTo.set1 (q i : Nat) (W : World) (u : Value) : RTo q W (W.setCell ⟨q, i, none⟩ u) := ⟨by simp [World.setCell], fun b _ hq => Below.heap_setCell W ⟨q, i, none⟩ u b hq⟩
theorem DSt.set (h : DSt T w W q l bad) (x : Bool) : DSt T w (W.setCell ⟨q, 1, none⟩ (.bool x)) q l x ∧ RTo q W (W.setCell ⟨q, 1, none⟩ (.bool x)) := by
  obtain ⟨p, c, h1, h2⟩ := h.box
  refine ⟨⟨belowSet h.b h.base _, h.base, p, c, ?_, h2⟩, RTo.set1 q 1 W _⟩
  exact heap_setCell_same W q 1 #[.slice p l.length c, .bool bad] T (.bool x) h1
theorem DSt.rest (h : DSt T w W q l bad) {k : Nat} (hk : k ≤ l.length) : ∃ p c p' c', W.heap[q]? = some (.cells #[.slice p l.length c, .bool bad] T (0, 0)) ∧ RdB W (.slice p l.length c) l ∧
    (∀ W', (Instr.slice 26 (.slice p l.length c) (some (.int .i64 (k : Int))) none none).run Tryz.prog W' = .ok (.slice p' (l.length - k) c') W') ∧
    DSt T w (W.setCell ⟨q, 0, none⟩ (.slice p' (l.length - k) c')) q (l.drop k) bad ∧ RTo q W (W.setCell ⟨q, 0, none⟩ (.slice p' (l.length - k) c')) := by
  obtain ⟨p, c, h1, h2⟩ := h.box
  obtain ⟨p', h3, h4⟩ := rd_rest h2 hk
  refine ⟨p, c, p', c - k, h1, h2.below h.b, h3, ⟨belowSet h.b h.base _, h.base, p', c - k, ?_, ?_⟩, RTo.set q W _⟩
  · rw [List.length_drop]
    exact heap_setCell_same W q 0 #[.slice p l.length c, .bool bad] T (.slice p' (l.length - k) (c - k)) h1
  · rw [List.length_drop]; exact h4
end
end Go.Proofs.YthdfedfholmbmaaGreatDoor

namespace Go.Proofs.YthdfedfholmbmaaGreatDoor
open Go.RowKit
section
variable {P : Program} {ops : Array Oper} {rest : List Oper} {Q : Exit → Act → World → Prop} {a : Act} {w w' : World} {dst : Option Tmp} {ty : TypeId} {pos : String} {af : Array Edge} {t : TypeId} {x y : Operand} {v : Value}
theorem op_load {b : Addr} (hr : (loadVar t b).run P w = .ok v w) (hx : a.eval x = .pointer (some b)) (h : wpList P ops Q rest (a.put dst v) w) : wpList P ops Q (⟨dst, .load t x, ty, pos, af, none⟩ :: rest) a w := wpList_load rfl t x b rfl hx hr h
theorem op_store {b : Addr} (hr : (storeVar t b v).run P w = .ok () w') (hx : a.eval x = .pointer (some b)) (hy : a.eval y = v) (h : wpList P ops Q rest a w') : wpList P ops Q (⟨none, .store t x y, ty, pos, af, none⟩ :: rest) a w := wpList_store rfl t x y b rfl hx hy hr h
theorem op_slice {lo hi mx : Option Operand} {vx : Value} {lo' hi' mx' : Option Value} (hr : (Instr.sliceAt t vx lo' hi' mx').run P w = .ok v w') (hx : a.eval x = vx) (h1 : lo.map a.eval = lo') (h2 : hi.map a.eval = hi') (h3 : mx.map a.eval = mx') (h : wpList P ops Q rest (a.put dst v) w') :
    wpList P ops Q (⟨dst, .slice t x lo hi mx, ty, pos, af, none⟩ :: rest) a w := wpList_run rfl (exec_slice rfl hx h1 h2 h3 hr) h
theorem op_conv {s : TypeId} {vx : Value} (hr : (convert s t vx).run P w = .ok v w') (hx : a.eval x = vx) (h : wpList P ops Q rest (a.put dst v) w') : wpList P ops Q (⟨dst, .convert s t x, ty, pos, af, none⟩ :: rest) a w := wpList_run rfl (exec_convert rfl hx hr) h
theorem op_bs1 {n i : Nat} {u : Value} (hr : (Instr.buildSlice t n #[(i, u)]).run P w = .ok v w') (hx : a.eval x = u) (h : wpList P ops Q rest (a.put dst v) w') : wpList P ops Q (⟨dst, .buildSlice t n #[(i, x)], ty, pos, af, none⟩ :: rest) a w := wpList_run rfl (exec_buildSlice1 rfl hx hr) h
theorem op_append {u : TypeId} {vx vy : Value} (hr : (Builtin.append_ #[t, u] ty #[vx, vy]).run P w = .ok v w') (hx : a.eval x = vx) (hy : a.eval y = vy) (h : wpList P ops Q rest (a.put dst v) w') :
    wpList P ops Q (⟨dst, .call { callee := .builtin .append, args := #[x, y], argTypes := #[t, u] }, ty, pos, af, none⟩ :: rest) a w := wpList_append rfl rfl hx hy hr h
end
end Go.Proofs.YthdfedfholmbmaaGreatDoor

namespace Go.Proofs.YthdfedfholmbmaaGreatDoor
open Go.RowKit
abbrev badV : Value := .iface 154 (.agg #[])
abbrev given : Ending := .panicked [{ v := badV, recovered := false }]
theorem gmust_ok (w : World) : Calls Tryz.prog 105 #[.bool true] w fun e w' => e = .returned (.tuple #[]) ∧ w = w' := by
  go_enter Tryz.func105, Tryz.ntmps105
  go_wp2
  go_end0
  exact ⟨rfl, rfl⟩
theorem gmust_bad (w : World) : Calls Tryz.prog 105 #[.bool false] w fun e w' => e = given ∧ w = w' := by
  go_enter Tryz.func105, Tryz.ntmps105
  go_wp2
  exact ⟨rfl, rfl, rfl⟩
def Reads {α : Type} (w W : World) (q : Nat) (r : Option (α × List UInt8)) (ok : α → Value → World → Prop) (e : Ending) (W' : World) : Prop :=
  RTo q W W' ∧ Below w.heap.size w W' ∧ match r with
    | some (x, s) => ∃ v, e = .returned v ∧ ok x v W' ∧ RSt 141 w W' q s
    | none => e = given
theorem Reads.some {α : Type} {w W W' : World} {q : Nat} {x : α} {s : List UInt8} {ok : α → Value → World → Prop} {e : Ending} (h : Reads w W q (some (x, s)) ok e W') : RTo q W W' ∧ Below w.heap.size w W' ∧ ∃ v, e = .returned v ∧ ok x v W' ∧ RSt 141 w W' q s := h
theorem Reads.none {α : Type} {w W W' : World} {q : Nat} {ok : α → Value → World → Prop} {e : Ending} (h : Reads w W q (none : Option (α × List UInt8)) ok e W') : RTo q W W' ∧ Below w.heap.size w W' ∧ e = given := h
section
variable {T : TypeId} {w W W1 W' : World} {q : Nat} {l m : List UInt8}
theorem RSt.other (h : RSt T w W q l) (hb : Below w.heap.size w W') (hx : W'.heap[q]? = W.heap[q]?) : RSt T w W' q l := by
  obtain ⟨p, c, h1, h2⟩ := h.box
  exact ⟨hb, h.base, p, c, hx.trans h1, h2⟩
end
theorem put_bytesR {w : World} {ad : Addr} {p : Option Addr} {n c : Nat} {u : Value} (hc : w.cell? ad = some u) (hf : w.frozen? ad = false) : (storeVar 26 ad (.slice p n c)).run Tryz.prog w = .ok () (w.setCell ad (.slice p n c)) := by
  simp [storeVar, go_sem, hc, hf]
theorem rd_first {W : World} {p : Option Addr} {c : Nat} {l : List UInt8} (h : RdB W (.slice p l.length c) l) (hl : 0 < l.length) : ∃ b o, p = some ⟨b, o, none⟩ ∧ W.cell? ⟨b, o, none⟩ = some (.int .u8 ((l[0]).toNat : Int)) := by
  obtain ⟨a1, cap, heq, ⟨hn, hm, hz⟩, hcell⟩ := h
  cases heq
  cases p with
  | none => have := hz rfl; omega
  | some ad =>
    obtain ⟨hs, hc⟩ := hcell ad rfl
    obtain ⟨b, o, sp⟩ := ad
    have hs := hs (fun e => by rw [e] at hl; simp at hl)
    simp only at hs; subst hs
    have := hc 0 l[0] (List.getElem?_eq_getElem hl)
    exact ⟨b, o, rfl, by simpa using this⟩
theorem byte_ok {w W : World} {q : Nat} {l : List UInt8} (h : RSt 141 w W q l) (hl : 0 < l.length) :
    Calls Tryz.prog 110 #[.pointer (some ⟨q, 0, none⟩)] W fun e W' => e = .returned (.int .u8 ((l[0]).toNat : Int)) ∧ RSt 141 w W' q (l.drop 1) ∧ RTo q W W' := by
  obtain ⟨p, c, p', c', h1, h2, h3, h4, h5⟩ := h.rest (k := 1) (by omega)
  have z1 : (l.length : Int) ≤ 9223372036854775807 := by
    obtain ⟨a1, cap, heq, ⟨hn, hm, hz⟩, _⟩ := h2
    cases heq; unfold maxLen at hm; omega
  have hpos : (0 : Int) < (l.length : Int) := by omega
  obtain ⟨b, o, rfl, hc⟩ := rd_first h2 hl
  have hq := cellOf (o := 0) h1 rfl
  have hcW := hc
  have hst := put_bytesR (p := p') (n := l.length - 1) (c := c') hq (freeOf (o := 0) h1)
  generalize l[0] = x0 at *
  have HSL := Lib.hid (fun W' => (run_sliceAt_gen Tryz.underlying26 _ _ _ _ W').trans (h3 W'))
  have HST := Lib.hid hst
  have HM := Lib.hid (gmust_ok W)
  have HF := Lib.hid (And.intro h4 h5)
  clear h h1 h2 h3 h4 h5 hc hst
  go_enter Tryz.func110, Tryz.ntmps110
  go_wp2_with (first
    | (go_at_call 105; refine HM.out.mono ?_; rintro e W1 ⟨rfl, rfl⟩)
    | ((with_reducible apply op_slice); exact HSL.out _; exact rfl; exact rfl; exact rfl; exact rfl)
    | ((with_reducible apply op_store); exact HST.out; exact rfl; exact rfl))
  go_ret
  exact ⟨rfl, HF.out⟩
theorem byte_bad {w W : World} {q : Nat} (h : RSt 141 w W q []) :
    Calls Tryz.prog 110 #[.pointer (some ⟨q, 0, none⟩)] W fun e W' => e = given ∧ W = W' := by
  obtain ⟨p, c, h1, h2⟩ := h.box
  have hq : W.cell? ⟨q, 0, none⟩ = some (.slice p 0 c) := cellOf (o := 0) h1 rfl
  have HM := Lib.hid (gmust_bad W)
  clear h h1 h2
  go_enter Tryz.func110, Tryz.ntmps110
  go_wp2_with (go_at_call 105; refine HM.out.mono ?_; rintro e W1 ⟨rfl, rfl⟩)
  exact ⟨rfl, rfl, rfl⟩
end Go.Proofs.YthdfedfholmbmaaGreatDoor

namespace Go.Proofs.YthdfedfholmbmaaGreatDoor
open Go.RowKit
theorem rdN_cons {i a : Nat} {l : List UInt8} (h : 0 < l.length) : rdN i a l = if 9 ≤ i ∧ 2 ≤ (l[0]).toNat then none else if (l[0]).toNat < 128 then (if 0 < (l[0]).toNat ∨ i = 0 then some (a + (l[0]).toNat * 128 ^ i, l.drop 1) else none) else rdN (i + 1) (a + ((l[0]).toNat - 128) * 128 ^ i) (l.drop 1) := by
  cases l with
  | nil => simp at h
  | cons c r => rw [rdN]; rfl
theorem bits_and127 {c : Nat} (h : c < 256) : bits .and .u8 (c : Int) 127 = ((c % 128 : Nat) : Int) := by
  have h1 : bits .and .u8 (c : Int) ((127 : Nat) : Int) = ((c &&& 127 : Nat) : Int) := u8_and_nat c 127 h (by decide)
  have h2 : c &&& 127 = c % 128 := Nat.and_two_pow_sub_one_eq_mod c 7
  rw [h2] at h1
  exact h1
theorem bits_step {i a c : Nat} (hi : i ≤ 9) (ha : a < 128 ^ i) (hc : c < 256) (h9 : i = 9 → c < 2) :
    bits .or .u64 (a : Int) (IntKind.u64.wrap (IntKind.u64.wrap (bits .and .u8 (c : Int) 127) * 2 ^ (7 * i))) = ((a + c % 128 * 128 ^ i : Nat) : Int) := by
  rw [bits_and127 hc]
  have hp := pow_le hi
  have hpw : (2 : Nat) ^ (7 * i) = 128 ^ i := by rw [Nat.pow_mul]
  have hx : c % 128 * 128 ^ i < 18446744073709551616 := by
    by_cases e : i = 9
    · have := h9 e
      subst e
      rw [pow9]; omega
    · have h8 : (128 : Nat) ^ i ≤ 128 ^ 8 := Nat.pow_le_pow_right (by omega) (by omega)
      have h8' : (128 : Nat) ^ 8 = 72057594037927936 := by decide
      rw [h8'] at h8
      have : c % 128 * 128 ^ i ≤ 127 * 72057594037927936 := Nat.mul_le_mul (by omega) h8
      omega
  have e1 : IntKind.u64.wrap ((c % 128 : Nat) : Int) = ((c % 128 : Nat) : Int) := by rw [IntKind.wrap_u64]; omega
  have e2 : (((c % 128 : Nat) : Int) * 2 ^ (7 * i)) = ((c % 128 * 128 ^ i : Nat) : Int) := by rw [← hpw]; push_cast; rfl
  have e3 : IntKind.u64.wrap ((c % 128 * 128 ^ i : Nat) : Int) = ((c % 128 * 128 ^ i : Nat) : Int) := by rw [IntKind.wrap_u64]; omega
  rw [e1, e2, e3, u64_or_nat a _ (by omega) hx]
  congr 1
  have := nat_join (7 * i) (c % 128 * 128 ^ i) a (by rw [hpw]; exact Nat.mul_mod_left _ _) (by rw [hpw]; exact ha)
  rw [Nat.or_comm, this, Nat.add_comm]
theorem rnumber_any {w W : World} {q : Nat} {l : List UInt8} (h : RSt 141 w W q l) :
    Calls Tryz.prog 55 #[.pointer (some ⟨q, 0, none⟩)] W (Reads w W q (rdN 0 0 l) fun n v _ => v = .int .u64 (n : Int)) := by
  have H := Lib.hid h
  clear h
  go_enter Tryz.func55, Tryz.ntmps55
  go_wp2
  go_loopw [3, 4] (fun n s wr => ∃ i a : Nat, i ≤ 9 ∧ Hid (a < 128 ^ i) ∧ n = .int .u64 (a : Int) ∧ s = .int .i64 (7 * (i : Int)) ∧ Hid (∃ m, RSt 141 w wr q m ∧ RTo q W wr ∧ rdN i a m = rdN 0 0 l)) (fun _ s _ => 70 - (intOf s).toNat)
  case atStart => exact ⟨0, 0, by omega, Lib.hid (by simp), rfl, rfl, Lib.hid ⟨l, H.out, RTo.refl _ _, rfl⟩⟩
  case round =>
    obtain ⟨i, a, hi, Ha, rfl, rfl, HI⟩ := hrel
    obtain ⟨m, hm, tm, em⟩ := HI.out
    by_cases hl : 0 < m.length
    · rw [rdN_cons hl] at em
      have HB := Lib.hid (byte_ok hm hl)
      have hc := (m[0]).toNat_lt
      generalize hx : (m[0]).toNat = c at *
      by_cases hg : 9 ≤ i ∧ 2 ≤ c
      · have g1 : decide (7 * (i : Int) < 63) = false := by rw [decide_eq_false_iff_not]; omega
        have g2 : decide ((c : Int) < 2) = false := by rw [decide_eq_false_iff_not]; omega
        rw [if_pos hg] at em
        have HT := Lib.hid (And.intro tm em)
        clear HI hm tm em
        go_wp2_with (first
          | (go_at_call 110; refine HB.out.mono ?_; rintro e W1 ⟨rfl, h1, t1⟩; have H1 := Lib.hid (And.intro h1 t1); clear h1 t1)
          | (go_at_call 105; refine (gmust_bad _).mono ?_; rintro e W2 ⟨rfl, rfl⟩))
        refine ⟨rfl, ?_⟩
        refine ⟨HT.out.1.trans H1.out.2, H1.out.1.b, ?_⟩
        rw [← HT.out.2]
      · rw [if_neg hg] at em
        have hbs := bits_step hi Ha.out (by omega : c < 256) (fun e => by omega)
        have h9 : ¬ ((i : Int) < 9) → (c : Int) < 2 := by omega
        by_cases hlow : c < 128
        · rw [if_pos hlow] at em
          have hcl : c % 128 = c := by omega
          rw [hcl] at hbs
          have l1 : (c : Int) < 128 := by omega
          by_cases hz : 0 < c ∨ i = 0
          · rw [if_pos hz] at em
            have HT := Lib.hid (And.intro tm em)
            clear HI hm tm em
            by_cases hcz : 0 < c
            · have l2 : (0 : Int) < (c : Int) := by omega
              by_cases hi9 : i < 9
              · have l3 : 7 * (i : Int) < 63 := by omega
                go_wp2_with (first
                  | (go_at_call 110; refine HB.out.mono ?_; rintro e W1 ⟨rfl, h1, t1⟩; have H1 := Lib.hid (And.intro h1 t1); clear h1 t1)
                  | (go_at_call 105; refine (gmust_ok _).mono ?_; rintro e W2 ⟨rfl, rfl⟩))
                go_ret
                refine ⟨HT.out.1.trans H1.out.2, H1.out.1.b, ?_⟩
                rw [← HT.out.2]
                exact ⟨_, rfl, rfl, H1.out.1⟩
              · have l3 : ¬ (7 * (i : Int) < 63) := by omega
                have l4 : (c : Int) < 2 := by omega
                go_wp2_with (first
                  | (go_at_call 110; refine HB.out.mono ?_; rintro e W1 ⟨rfl, h1, t1⟩; have H1 := Lib.hid (And.intro h1 t1); clear h1 t1)
                  | (go_at_call 105; refine (gmust_ok _).mono ?_; rintro e W2 ⟨rfl, rfl⟩))
                go_ret
                refine ⟨HT.out.1.trans H1.out.2, H1.out.1.b, ?_⟩
                rw [← HT.out.2]
                exact ⟨_, rfl, rfl, H1.out.1⟩
            · obtain rfl : c = 0 := by omega
              obtain rfl : i = 0 := by omega
              have ha0 := Ha.out
              obtain rfl : a = 0 := by simpa using ha0
              have hb0 : bits .or .u64 0 (IntKind.u64.wrap (IntKind.u64.wrap (bits .and .u8 0 127))) = 0 := by decide
              clear hbs ha0
              go_wp2_with (first
                | (go_at_call 110; refine HB.out.mono ?_; rintro e W1 ⟨rfl, h1, t1⟩; have H1 := Lib.hid (And.intro h1 t1); clear h1 t1)
                | (go_at_call 105; refine (gmust_ok _).mono ?_; rintro e W2 ⟨rfl, rfl⟩))
              go_ret
              refine ⟨HT.out.1.trans H1.out.2, H1.out.1.b, ?_⟩
              rw [← HT.out.2]
              exact ⟨_, rfl, rfl, H1.out.1⟩
          · rw [if_neg hz] at em
            have HT := Lib.hid (And.intro tm em)
            obtain rfl : c = 0 := by omega
            have l2 : (7 * (i : Int) == 0) = false := by rw [beq_eq_false_iff_ne]; omega
            clear HI hm tm em
            by_cases hi9 : i < 9
            · have l3 : 7 * (i : Int) < 63 := by omega
              go_wp2_with (first
                | (go_at_call 110; refine HB.out.mono ?_; rintro e W1 ⟨rfl, h1, t1⟩; have H1 := Lib.hid (And.intro h1 t1); clear h1 t1)
                | (go_at_call 105; first | (refine (gmust_ok _).mono ?_; rintro e W2 ⟨rfl, rfl⟩) | (refine (gmust_bad _).mono ?_; rintro e W2 ⟨rfl, rfl⟩)))
              refine ⟨rfl, ?_⟩
              refine ⟨HT.out.1.trans H1.out.2, H1.out.1.b, ?_⟩
              rw [← HT.out.2]
            · have l3 : ¬ (7 * (i : Int) < 63) := by omega
              go_wp2_with (first
                | (go_at_call 110; refine HB.out.mono ?_; rintro e W1 ⟨rfl, h1, t1⟩; have H1 := Lib.hid (And.intro h1 t1); clear h1 t1)
                | (go_at_call 105; first | (refine (gmust_ok _).mono ?_; rintro e W2 ⟨rfl, rfl⟩) | (refine (gmust_bad _).mono ?_; rintro e W2 ⟨rfl, rfl⟩)))
              refine ⟨rfl, ?_⟩
              refine ⟨HT.out.1.trans H1.out.2, H1.out.1.b, ?_⟩
              rw [← HT.out.2]
        · rw [if_neg hlow] at em
          have hcl : c % 128 = c - 128 := by omega
          rw [hcl] at hbs
          have l1 : ¬ ((c : Int) < 128) := by omega
          have hi9 : i < 9 := by omega
          have hi10 : i + 1 ≤ 9 := hi9
          have l3 : 7 * (i : Int) < 63 := by omega
          have ha2 : a + (c - 128) * 128 ^ i < 128 ^ (i + 1) := by
            have := Ha.out
            have : (c - 128) * 128 ^ i ≤ 127 * 128 ^ i := Nat.mul_le_mul_right _ (by omega)
            rw [Nat.pow_succ]; omega
          have HA2 := Lib.hid ha2
          have HT := Lib.hid (And.intro tm em)
          clear HI hm tm em ha2
          go_wp2_with (first
            | (go_at_call 110; refine HB.out.mono ?_; rintro e W1 ⟨rfl, h1, t1⟩; have H1 := Lib.hid (And.intro h1 t1); clear h1 t1)
            | (go_at_call 105; refine (gmust_ok _).mono ?_; rintro e W2 ⟨rfl, rfl⟩))
          go_roundw
          case rel => exact ⟨i + 1, _, hi10, HA2, rfl, by go_num, Lib.hid ⟨_, H1.out.1, HT.out.1.trans H1.out.2, HT.out.2⟩⟩
          case measure => simp [intOf]; omega
    · obtain rfl : m = [] := List.eq_nil_of_length_eq_zero (by omega)
      have HB := Lib.hid (byte_bad hm)
      have HT := Lib.hid (And.intro tm (And.intro hm.b em))
      clear HI hm tm em
      go_wp2_with (go_at_call 110; refine HB.out.mono ?_; rintro e W1 ⟨rfl, rfl⟩)
      refine ⟨rfl, ?_⟩
      refine ⟨HT.out.1, HT.out.2.1, ?_⟩
      rw [← HT.out.2.2, rdN]
end Go.Proofs.YthdfedfholmbmaaGreatDoor

namespace Go.Proofs.YthdfedfholmbmaaGreatDoor
open Go.RowKit
def okV (v : V) : Bool := checkV Lib.validD v == 0
def fineL (l : List V) : Bool := l.all okV
theorem fine1_any {v : V} {w : World} {x : Array Value} (hE : Env w) (hx : VRd w v x) (ht : totV v ≤ 1099511627776) :
    Calls Tryz.prog 185 #[.agg x] w fun e w' => e = .returned (.bool (!(okV v))) ∧ Below w.heap.size w w' := by
  have hT := OneB.start w x
  have hc := check_ok (hE.b hT.2) (hx.below hT.2) ht
  obtain ⟨pk, ck, pl, cl, rfl, _⟩ := hx.open
  have HC := Lib.hid hc
  have HT := Lib.hid hT
  clear hc hT hx hE ht
  unfold okV
  generalize checkV Lib.validD v = R at *
  go_enter Tryz.func185, Tryz.ntmps185
  go_wp2_with (go_at_call 63; refine HC.out.mono ?_; rintro e w1 ⟨rfl, hb1⟩; have HB := Lib.hid (below_trans HT.out.2 hb1); clear hb1)
  go_ret
  exact ⟨ret_bool (by simp [bne]), HB.out⟩
theorem index_fine {w : World} {p : Option Addr} {c : Nat} {l : List V} (hE : Env w) (hl : LRd w p c l) (ht : totVs l ≤ 1099511627776) :
    Calls Tryz.prog 204 #[.slice p l.length c, .func (.func 185) #[] #[]] w fun e w' => (∃ i : Int, e = .returned (.int .i64 i) ∧ decide (0 ≤ i) = !(fineL l)) ∧ Below w.heap.size w w' := by
  have z1 : (l.length : Int) ≤ 140737488355328 := by have := hl.1.1; have := hl.1.2.1; omega
  have HE := Lib.hid hE
  have HL := Lib.hid hl
  have HT := Lib.hid ht
  clear hE hl ht
  go_enter Tryz.func204, Tryz.ntmps204
  go_wp2
  go_loopw [8] (fun i W => ∃ j : Nat, j ≤ l.length ∧ i = .int .i64 (j : Int) ∧ Hid (Below w.heap.size w W ∧ fineL (l.take j) = true)) (fun i _ => l.length - (intOf i).toNat)
  case atStart => exact ⟨0, Nat.zero_le _, rfl, Lib.hid ⟨Below.refl _ _, rfl⟩⟩
  case round =>
    obtain ⟨j, hj, rfl, HJ⟩ := hrel
    by_cases hlt : j < l.length
    · have hlt1 : j + 1 ≤ l.length := hlt
      obtain ⟨hb, hf⟩ := HJ.out
      have htk : fineL (l.take (j + 1)) = okV l[j] := by
        unfold fineL at *
        rw [List.take_succ_eq_append_getElem hlt, List.all_append, hf]; simp
      have hbad : okV l[j] = false → fineL l = false := fun h => by
        unfold fineL; rw [List.all_eq_false]; exact ⟨l[j], List.getElem_mem hlt, by simp [h]⟩
      have htot := totVs_mem (List.getElem_mem hlt)
      obtain ⟨g1, o1, pk1, ck1, pl1, cl1, rfl, ⟨a0, a1, a2, a3, a4, a5⟩, hv1⟩ := (HL.out.below hb).at hlt
      have hcall := fine1_any (HE.out.b hb) hv1 (by have := HT.out; omega)
      generalize okV l[j] = on at *
      generalize l[j] = s1 at *
      have HD := Lib.hid (And.intro htk (And.intro hbad (And.intro hcall hb)))
      clear htk hbad hcall hb hf htot hv1 HJ
      cases on with
      | false =>
        go_wp2_with (go_at_call 185
                     (
                       refine HD.out.2.2.1.mono ?_
                       rintro e w1 ⟨rfl, hb1⟩
                       have HB := Lib.hid hb1
                       clear hb1))
        go_ret
        refine ⟨⟨_, rfl, ?_⟩, below_trans HD.out.2.2.2 HB.out⟩
        rw [HD.out.2.1 (by simp)]; simp
      | true =>
        go_wp2_with (go_at_call 185
                     (
                       refine HD.out.2.2.1.mono ?_
                       rintro e w1 ⟨rfl, hb1⟩
                       have HB := Lib.hid hb1
                       clear hb1))
        go_roundw
        case rel => exact ⟨j + 1, hlt1, by go_num, Lib.hid ⟨below_trans HD.out.2.2.2 HB.out, HD.out.1⟩⟩
        case measure => simp [intOf]; omega
    · obtain rfl : j = l.length := by omega
      have hfin : fineL l = true := by have h := HJ.out.2; rwa [List.take_length] at h
      have HF := Lib.hid (And.intro hfin HJ.out.1)
      clear hfin HJ
      go_wp2
      go_ret
      exact ⟨⟨_, rfl, by rw [HF.out.1]; simp⟩, HF.out.2⟩
theorem contains_fine {w : World} {p : Option Addr} {c : Nat} {l : List V} (hE : Env w) (hl : LRd w p c l) (ht : totVs l ≤ 1099511627776) :
    Calls Tryz.prog 183 #[.slice p l.length c, .func (.func 185) #[] #[]] w fun e w' => e = .returned (.bool (!(fineL l))) ∧ Below w.heap.size w w' := by
  have HC := Lib.hid (index_fine hE hl ht)
  clear hE hl ht
  go_enter Tryz.func183, Tryz.ntmps183
  go_wp2_with (go_at_call 204; refine HC.out.mono ?_; rintro e w1 ⟨⟨i, rfl, hi⟩, hb1⟩; have HB := Lib.hid (And.intro hi hb1); clear hi hb1)
  go_ret
  exact ⟨ret_bool HB.out.1, HB.out.2⟩
theorem fine_any {w : World} {p : Option Addr} {c : Nat} {l : List V} (hE : Env w) (hl : LRd w p c l) (ht : totVs l ≤ 1099511627776) :
    Calls Tryz.prog 172 #[.slice p l.length c] w fun e w' => e = .returned (.bool (fineL l)) ∧ Below w.heap.size w w' := by
  have HC := Lib.hid (contains_fine hE hl ht)
  clear hE hl ht
  go_enter Tryz.func172, Tryz.ntmps172
  go_wp2_with (go_at_call 183; refine HC.out.mono ?_; rintro e w1 ⟨rfl, hb1⟩; have HB := Lib.hid hb1; clear hb1)
  go_ret
  exact ⟨ret_bool (by simp), HB.out⟩
end Go.Proofs.YthdfedfholmbmaaGreatDoor

namespace Go.Proofs.YthdfedfholmbmaaGreatDoor
open Go.RowKit
theorem LRd.one {W : World} {g : Nat} {a : V} {c0 c1 c2 c3 c4 c5 : Value} (h : W.heap[g]? = some (.cells #[c0, c1, c2, c3, c4, c5] 48 (0, 0))) (ha : VRd W a #[c0, c1, c2, c3, c4, c5]) : LRd W (some ⟨g, 0, none⟩) 1 [a] := by
  refine ⟨⟨by simp, ⟨by simp, by omega⟩, fun e => by cases e⟩, fun ad had => ?_⟩
  cases had
  refine ⟨fun _ => rfl, fun j v hv => ?_⟩
  match j, hv with
  | 0, hv => cases hv; exact ⟨_, ⟨_, _, _, _, _, _, rfl, cellOf h rfl, cellOf h rfl, cellOf h rfl, cellOf h rfl, cellOf h rfl, cellOf h rfl⟩, ha⟩
  | j + 1, hv => simp at hv
theorem LRd.two {W : World} {g : Nat} {a b : V} {c0 c1 c2 c3 c4 c5 d0 d1 d2 d3 d4 d5 : Value} (h : W.heap[g]? = some (.cells #[c0, c1, c2, c3, c4, c5, d0, d1, d2, d3, d4, d5] 48 (0, 0))) (ha : VRd W a #[c0, c1, c2, c3, c4, c5]) (hb : VRd W b #[d0, d1, d2, d3, d4, d5]) : LRd W (some ⟨g, 0, none⟩) 2 [a, b] := by
  refine ⟨⟨by simp, ⟨by simp, by omega⟩, fun e => by cases e⟩, fun ad had => ?_⟩
  cases had
  refine ⟨fun _ => rfl, fun j v hv => ?_⟩
  match j, hv with
  | 0, hv => cases hv; exact ⟨_, ⟨_, _, _, _, _, _, rfl, cellOf h rfl, cellOf h rfl, cellOf h rfl, cellOf h rfl, cellOf h rfl, cellOf h rfl⟩, ha⟩
  | 1, hv => cases hv; exact ⟨_, ⟨_, _, _, _, _, _, rfl, cellOf h rfl, cellOf h rfl, cellOf h rfl, cellOf h rfl, cellOf h rfl, cellOf h rfl⟩, hb⟩
  | j + 2, hv => simp at hv
theorem okV_may {v : V} (h : okV v = true) : mayV Lib.validD v = true := by
  unfold okV checkV at h
  cases hm : mayV Lib.validD v with
  | true => rfl
  | false => rw [hm] at h; simp at h
theorem fine_two {w W : World} {a b : V} {x0 x1 x2 x3 x4 x5 y0 y1 y2 y3 y4 y5 : Value} (hE : Env w) (hT : TwoV w W #[x0, x1, x2, x3, x4, x5] #[y0, y1, y2, y3, y4, y5]) (ha : VRd w a #[x0, x1, x2, x3, x4, x5]) (hb : VRd w b #[y0, y1, y2, y3, y4, y5]) (ht : totV a + totV b ≤ 1099511627776) :
    Calls Tryz.prog 172 #[.slice (some ⟨W.heap.size, 0, none⟩) 2 2] (W.alloc (.cells #[x0, x1, x2, x3, x4, x5, y0, y1, y2, y3, y4, y5] 48)) fun e w' => e = .returned (.bool (okV a && okV b)) ∧ TwoV w w' #[x0, x1, x2, x3, x4, x5] #[y0, y1, y2, y3, y4, y5] := by
  have hA := below_new (w := W) (.cells #[x0, x1, x2, x3, x4, x5, y0, y1, y2, y3, y4, y5] 48)
  have hT2 := hT.below hA
  have hL := LRd.two (heap_alloc_new W _) (ha.below hT2.2.2) (hb.below hT2.2.2)
  refine (fine_any (hE.b hT2.2.2) hL (by simp only [totVs]; omega)).mono ?_
  rintro e w' ⟨rfl, hb'⟩
  exact ⟨ret_bool (by simp [fineL]), hT2.below hb'⟩
theorem same_any {a b : V} {w : World} {x y : Array Value} (hE : Env w) (ha : VRd w a x) (hb : VRd w b y) (ht : totV a + totV b ≤ 1099511627776) :
    Calls Tryz.prog 157 #[.agg x, .agg y] w fun e w' => e = .returned (.bool (okV a && okV b && decide (cmpV a b = 0))) ∧ Below w.heap.size w w' := by
  have hT := TwoV.start w x y
  obtain ⟨pk, ck, pl, cl, rfl, _⟩ := ha.open
  obtain ⟨pk', ck', pl', cl', rfl, _⟩ := hb.open
  have hf := fine_two hE hT ha hb ht
  simp only [World.size_alloc] at hf
  have hcmp : ∀ {W : World}, okV a = true → okV b = true → Below w.heap.size w W → _ := fun {W} h1 h2 hbw => compare_any a (okV_may h1) b (okV_may h2) (ha.below hbw) (hb.below hbw)
  have HF := Lib.hid hf
  have HC := Lib.hid (fun (W : World) (h1 : okV a = true) (h2 : okV b = true) (hbw : Below w.heap.size w W) => hcmp h1 h2 hbw)
  clear hcmp hf hT hE ha hb ht
  generalize cmpV a b = R at *
  cases hok : (okV a && okV b) with
  | false =>
    rw [hok] at HF
    go_enter Tryz.func157, Tryz.ntmps157
    go_wp2_with (go_at_call 172; (refine HF.out.mono ?_; rintro e w1 ⟨rfl, hT1⟩; have HT := Lib.hid hT1; clear hT1))
    go_ret
    exact ⟨rfl, HT.out.2.2⟩
  | true =>
    rw [hok] at HF
    obtain ⟨h1, h2⟩ := Bool.and_eq_true_iff.1 hok
    go_enter Tryz.func157, Tryz.ntmps157
    go_wp2_with (first
      | (go_at_call 172
         (
           refine HF.out.mono ?_
           rintro e w1 ⟨rfl, hT1⟩
           have HT := Lib.hid hT1
           have p0 := cellOf (o := 0) hT1.1 rfl
           have p1 := cellOf (o := 1) hT1.1 rfl
           have p2 := cellOf (o := 2) hT1.1 rfl
           have p3 := cellOf (o := 3) hT1.1 rfl
           have p4 := cellOf (o := 4) hT1.1 rfl
           have p5 := cellOf (o := 5) hT1.1 rfl
           have r0 := cellOf (o := 0) hT1.2.1 rfl
           have r1 := cellOf (o := 1) hT1.2.1 rfl
           have r2 := cellOf (o := 2) hT1.2.1 rfl
           have r3 := cellOf (o := 3) hT1.2.1 rfl
           have r4 := cellOf (o := 4) hT1.2.1 rfl
           have r5 := cellOf (o := 5) hT1.2.1 rfl
           clear hT1))
      | (go_at_call 173
         (
           refine (HC.out _ h1 h2 HT.out.2.2).mono ?_
           rintro e w2 ⟨rfl, hb2⟩
           have HB := Lib.hid (below_trans HT.out.2.2 hb2)
           clear hb2)))
    go_ret
    exact ⟨ret_bool (by simp; rfl), HB.out⟩
end Go.Proofs.YthdfedfholmbmaaGreatDoor

namespace Go.Proofs.YthdfedfholmbmaaGreatDoor
open Go.RowKit
def badB (k k0 : Int) : Bool := decide (k ≠ k0) || decide (k < 1) || decide (3 < k)
def storL (l : List V) : Bool := l.all fun x => !(badB x.kind ((l.map V.kind).headD 0))
def storB (v : V) : Bool := storL (if v.kind = 4 then v.list else [v])
theorem fa_first (y o : Nat) (W : World) : (Instr.fieldAt 48 (.pointer (some ⟨y, o, none⟩)) 0).run Tryz.prog W = .ok (.pointer (some ⟨y, o, none⟩)) W := by
  simp [go_sem]
theorem ia_first (g o n c : Nat) (h : 0 < n) (W : World) : (Instr.indexAt 46 (.slice (some ⟨g, o, none⟩) n c) (.int .i64 0)).run Tryz.prog W = .ok (.pointer (some ⟨g, o, none⟩)) W := by
  simp [go_sem, h, addr_add]
structure BoxL (w : World) (b g o n c : Nat) (k0 : Int) (x : Array Value) (W : World) : Prop where
  box : W.heap[b]? = some (.cells #[.slice (some ⟨g, o, none⟩) n c] 46 (0, 0))
  first : W.cell? ⟨g, o, none⟩ = some (.int .i64 k0)
  one : W.heap[w.heap.size]? = some (.cells x 48 (0, 0))
  below : Below w.heap.size w W
theorem bad_any {w : World} {v : V} {x : Array Value} {b g o n c : Nat} {k0 : Int} (hx : VRd w v x) (hb : w.heap[b]? = some (.cells #[.slice (some ⟨g, o, none⟩) n c] 46 (0, 0))) (hk : w.cell? ⟨g, o, none⟩ = some (.int .i64 k0)) (hn : 0 < n) :
    Calls Tryz.prog 182 #[.agg x, .pointer (some ⟨b, 0, none⟩)] w fun e w' => e = .returned (.bool (badB v.kind k0)) ∧ Below w.heap.size w w' := by
  obtain ⟨pk, ck, pl, cl, rfl, _⟩ := hx.open
  have hT : BoxL w b g o n c k0 #[.int .i64 v.kind, .bool v.b, .int .i64 v.n, .string (strB v.text), .slice pk v.keys.length ck, .slice pl v.list.length cl] (w.alloc (.cells #[.int .i64 v.kind, .bool v.b, .int .i64 v.n, .string (strB v.text), .slice pk v.keys.length ck, .slice pl v.list.length cl] 48)) :=
    ⟨belowBlk (below_new _) (Array.getElem?_eq_some_iff.1 hb).1 hb, belowCell (below_new _) (ltOf hk) hk, heap_alloc_new w _, below_new _⟩
  have HR := Lib.hid (show badB v.kind k0 = (decide (v.kind ≠ k0) || decide (v.kind < 1) || decide (3 < v.kind)) from rfl)
  generalize badB v.kind k0 = R at *
  generalize v.kind = k at *
  have HT := Lib.hid hT
  clear hx hb hk hT
  go_enter Tryz.func182, Tryz.ntmps182
  go_wp2
  have hT := HT.out
  generalize w.alloc _ = W0 at *
  have hT0 : BoxL w b g o n c k0 #[.int .i64 k, .bool v.b, .int .i64 v.n, .string (strB v.text), .slice pk v.keys.length ck, .slice pl v.list.length cl] W0.drew := ⟨hT.box, hT.first, hT.one, hT.below.drew⟩
  by_cases h1 : k = k0
  · have hne : ∀ W : World, (binOp .neq 44 (.int .i64 k) (.int .i64 k0)).run Tryz.prog W = .ok (.bool false) W := by
      intro W; simp [go_sem, h1]
    by_cases h2 : k < 1
    · have hlt : ∀ W : World, (binOp .lss 44 (.int .i64 k) (.int .i64 1)).run Tryz.prog W = .ok (.bool true) W := by
        intro W; simp [go_sem, h2]
      refine plain_region_draws (fun W => BoxL w b g o n c k0 #[.int .i64 k, .bool v.b, .int .i64 v.n, .string (strB v.text), .slice pk v.keys.length ck, .slice pl v.list.length cl] W) (by kernel_rfl) hT0 (fun hU0 => ?_)
      refine tk 0 4 (v := .pointer (some ⟨w.heap.size, 0, none⟩)) rfl rfl (fun W hW => exec_fieldAddr rfl rfl (fa_value _ _ (by decide) W)) ?_
      simp only [Act.put, sA, sZ, sS]
      refine tk 1 5 (v := .int .i64 k) rfl rfl (fun W hW => exec_load rfl rfl (run_load1 (w := W) Tryz.underlying44 rfl (cellOf hW.one rfl))) ?_
      simp only [Act.put, sA, sZ, sS]
      refine tk 2 6 (v := .slice (some ⟨g, o, none⟩) n c) rfl rfl (fun W hW => exec_load rfl rfl (run_load1 (w := W) Tryz.underlying46 rfl (cellOf hW.box rfl))) ?_
      simp only [Act.put, sA, sZ, sS]
      refine tk 3 7 (v := .pointer (some ⟨g, o, none⟩)) rfl rfl (fun W hW => exec_indexAddr rfl rfl rfl (ia_first _ _ _ _ hn W)) ?_
      simp only [Act.put, sA, sZ, sS]
      refine tk 4 8 (v := .pointer (some ⟨g, o, none⟩)) rfl rfl (fun W hW => exec_fieldAddr rfl rfl (fa_first _ _ W)) ?_
      simp only [Act.put, sA, sZ, sS]
      refine tk 5 9 (v := .int .i64 k0) rfl rfl (fun W hW => exec_load rfl rfl (run_load1 (w := W) Tryz.underlying44 rfl hW.first)) ?_
      simp only [Act.put, sA, sZ, sS]
      refine tk 6 10 (v := .bool false) rfl rfl (fun W hW => exec_bini rfl rfl rfl (hne W)) ?_
      simp only [Act.put, sA, sZ, sS]
      refine tk 7 11 (v := .bool false) rfl rfl (fun W hW => exec_move rfl rfl) ?_
      simp only [Act.put, sA, sZ, sS]
      refine tk 8 12 (v := .pointer (some ⟨w.heap.size, 0, none⟩)) rfl rfl (fun W hW => exec_fieldAddr rfl rfl (fa_value _ _ (by decide) W)) ?_
      simp only [Act.put, sA, sZ, sS]
      refine tk 9 13 (v := .int .i64 k) rfl rfl (fun W hW => exec_load rfl rfl (run_load1 (w := W) Tryz.underlying44 rfl (cellOf hW.one rfl))) ?_
      simp only [Act.put, sA, sZ, sS]
      refine tk 10 14 (v := .bool true) rfl rfl (fun W hW => exec_bini rfl rfl rfl (hlt W)) ?_
      simp only [Act.put, sA, sZ, sS]
      refine tk 11 15 (v := .bool true) rfl rfl (fun W hW => rfl) ?_
      simp only [Act.put, sA, sZ, sS]
      refine tk 12 16 (v := .bool true) rfl rfl (fun W hW => exec_move rfl rfl) ?_
      simp only [Act.put, sA, sZ, sS]
      refine takeNot 13 17 rfl rfl (by kernel_rfl) (by kernel_rfl) (by kernel_rfl) rfl (by assumption) ?_
      simp only [Act.put, sA, sZ, sS]
      refine takeNot 14 18 rfl rfl (by kernel_rfl) (by kernel_rfl) (by kernel_rfl) rfl (by assumption) ?_
      simp only [Act.put, sA, sZ, sS]
      refine takeNot 15 19 rfl rfl (by kernel_rfl) (by kernel_rfl) (by kernel_rfl) rfl (by assumption) ?_
      simp only [Act.put, sA, sZ, sS]
      refine tk 16 20 (v := .bool true) rfl rfl (fun W hW => rfl) ?_
      simp only [Act.put, sA, sZ, sS]
      refine tk 17 3 (v := .bool true) rfl rfl (fun W hW => exec_assign rfl rfl) ?_
      simp only [Act.put, sA, sZ, sS]
      refine done (by kernel_rfl) ?_ _
      go_wp2
      go_ret
      exact ⟨ret_bool (by rw [HR.out]; simp [h2]), hU0.below⟩
    · have hlt : ∀ W : World, (binOp .lss 44 (.int .i64 k) (.int .i64 1)).run Tryz.prog W = .ok (.bool false) W := by
        intro W; simp [go_sem]; omega
      have hgt : ∀ W : World, (binOp .gtr 44 (.int .i64 k) (.int .i64 3)).run Tryz.prog W = .ok (.bool (decide (3 < k))) W := by
        intro W; simp [go_sem]
      refine plain_region_draws (fun W => BoxL w b g o n c k0 #[.int .i64 k, .bool v.b, .int .i64 v.n, .string (strB v.text), .slice pk v.keys.length ck, .slice pl v.list.length cl] W) (by kernel_rfl) hT0 (fun hU0 => ?_)
      refine tk 0 4 (v := .pointer (some ⟨w.heap.size, 0, none⟩)) rfl rfl (fun W hW => exec_fieldAddr rfl rfl (fa_value _ _ (by decide) W)) ?_
      simp only [Act.put, sA, sZ, sS]
      refine tk 1 5 (v := .int .i64 k) rfl rfl (fun W hW => exec_load rfl rfl (run_load1 (w := W) Tryz.underlying44 rfl (cellOf hW.one rfl))) ?_
      simp only [Act.put, sA, sZ, sS]
      refine tk 2 6 (v := .slice (some ⟨g, o, none⟩) n c) rfl rfl (fun W hW => exec_load rfl rfl (run_load1 (w := W) Tryz.underlying46 rfl (cellOf hW.box rfl))) ?_
      simp only [Act.put, sA, sZ, sS]
      refine tk 3 7 (v := .pointer (some ⟨g, o, none⟩)) rfl rfl (fun W hW => exec_indexAddr rfl rfl rfl (ia_first _ _ _ _ hn W)) ?_
      simp only [Act.put, sA, sZ, sS]
      refine tk 4 8 (v := .pointer (some ⟨g, o, none⟩)) rfl rfl (fun W hW => exec_fieldAddr rfl rfl (fa_first _ _ W)) ?_
      simp only [Act.put, sA, sZ, sS]
      refine tk 5 9 (v := .int .i64 k0) rfl rfl (fun W hW => exec_load rfl rfl (run_load1 (w := W) Tryz.underlying44 rfl hW.first)) ?_
      simp only [Act.put, sA, sZ, sS]
      refine tk 6 10 (v := .bool false) rfl rfl (fun W hW => exec_bini rfl rfl rfl (hne W)) ?_
      simp only [Act.put, sA, sZ, sS]
      refine tk 7 11 (v := .bool false) rfl rfl (fun W hW => exec_move rfl rfl) ?_
      simp only [Act.put, sA, sZ, sS]
      refine tk 8 12 (v := .pointer (some ⟨w.heap.size, 0, none⟩)) rfl rfl (fun W hW => exec_fieldAddr rfl rfl (fa_value _ _ (by decide) W)) ?_
      simp only [Act.put, sA, sZ, sS]
      refine tk 9 13 (v := .int .i64 k) rfl rfl (fun W hW => exec_load rfl rfl (run_load1 (w := W) Tryz.underlying44 rfl (cellOf hW.one rfl))) ?_
      simp only [Act.put, sA, sZ, sS]
      refine tk 10 14 (v := .bool false) rfl rfl (fun W hW => exec_bini rfl rfl rfl (hlt W)) ?_
      simp only [Act.put, sA, sZ, sS]
      refine tk 11 15 (v := .bool false) rfl rfl (fun W hW => rfl) ?_
      simp only [Act.put, sA, sZ, sS]
      refine tk 12 16 (v := .bool false) rfl rfl (fun W hW => exec_move rfl rfl) ?_
      simp only [Act.put, sA, sZ, sS]
      refine tk 13 17 (v := .pointer (some ⟨w.heap.size, 0, none⟩)) rfl rfl (fun W hW => exec_fieldAddr rfl rfl (fa_value _ _ (by decide) W)) ?_
      simp only [Act.put, sA, sZ, sS]
      refine tk 14 18 (v := .int .i64 k) rfl rfl (fun W hW => exec_load rfl rfl (run_load1 (w := W) Tryz.underlying44 rfl (cellOf hW.one rfl))) ?_
      simp only [Act.put, sA, sZ, sS]
      refine tk 15 19 (v := .bool (decide (3 < k))) rfl rfl (fun W hW => exec_bini rfl rfl rfl (hgt W)) ?_
      simp only [Act.put, sA, sZ, sS]
      refine tk 16 20 (v := .bool (decide (3 < k))) rfl rfl (fun W hW => rfl) ?_
      simp only [Act.put, sA, sZ, sS]
      refine tk 17 3 (v := .bool (decide (3 < k))) rfl rfl (fun W hW => exec_assign rfl rfl) ?_
      simp only [Act.put, sA, sZ, sS]
      refine done (by kernel_rfl) ?_ _
      go_wp2
      go_ret
      exact ⟨ret_bool (by rw [HR.out, show decide (k ≠ k0) = false by simp [h1], show decide (k < 1) = false by simp; omega]; simp; omega), hU0.below⟩
  · have hne : ∀ W : World, (binOp .neq 44 (.int .i64 k) (.int .i64 k0)).run Tryz.prog W = .ok (.bool true) W := by
      intro W; simp [go_sem, h1]
    refine plain_region_draws (fun W => BoxL w b g o n c k0 #[.int .i64 k, .bool v.b, .int .i64 v.n, .string (strB v.text), .slice pk v.keys.length ck, .slice pl v.list.length cl] W) (by kernel_rfl) hT0 (fun hU0 => ?_)
    refine tk 0 4 (v := .pointer (some ⟨w.heap.size, 0, none⟩)) rfl rfl (fun W hW => exec_fieldAddr rfl rfl (fa_value _ _ (by decide) W)) ?_
    simp only [Act.put, sA, sZ, sS]
    refine tk 1 5 (v := .int .i64 k) rfl rfl (fun W hW => exec_load rfl rfl (run_load1 (w := W) Tryz.underlying44 rfl (cellOf hW.one rfl))) ?_
    simp only [Act.put, sA, sZ, sS]
    refine tk 2 6 (v := .slice (some ⟨g, o, none⟩) n c) rfl rfl (fun W hW => exec_load rfl rfl (run_load1 (w := W) Tryz.underlying46 rfl (cellOf hW.box rfl))) ?_
    simp only [Act.put, sA, sZ, sS]
    refine tk 3 7 (v := .pointer (some ⟨g, o, none⟩)) rfl rfl (fun W hW => exec_indexAddr rfl rfl rfl (ia_first _ _ _ _ hn W)) ?_
    simp only [Act.put, sA, sZ, sS]
    refine tk 4 8 (v := .pointer (some ⟨g, o, none⟩)) rfl rfl (fun W hW => exec_fieldAddr rfl rfl (fa_first _ _ W)) ?_
    simp only [Act.put, sA, sZ, sS]
    refine tk 5 9 (v := .int .i64 k0) rfl rfl (fun W hW => exec_load rfl rfl (run_load1 (w := W) Tryz.underlying44 rfl hW.first)) ?_
    simp only [Act.put, sA, sZ, sS]
    refine tk 6 10 (v := .bool true) rfl rfl (fun W hW => exec_bini rfl rfl rfl (hne W)) ?_
    simp only [Act.put, sA, sZ, sS]
    refine tk 7 11 (v := .bool true) rfl rfl (fun W hW => exec_move rfl rfl) ?_
    simp only [Act.put, sA, sZ, sS]
    refine takeNot 8 12 rfl rfl (by kernel_rfl) (by kernel_rfl) (by kernel_rfl) rfl (by assumption) ?_
    simp only [Act.put, sA, sZ, sS]
    refine takeNot 9 13 rfl rfl (by kernel_rfl) (by kernel_rfl) (by kernel_rfl) rfl (by assumption) ?_
    simp only [Act.put, sA, sZ, sS]
    refine takeNot 10 14 rfl rfl (by kernel_rfl) (by kernel_rfl) (by kernel_rfl) rfl (by assumption) ?_
    simp only [Act.put, sA, sZ, sS]
    refine tk 11 15 (v := .bool true) rfl rfl (fun W hW => rfl) ?_
    simp only [Act.put, sA, sZ, sS]
    refine tk 12 16 (v := .bool true) rfl rfl (fun W hW => exec_move rfl rfl) ?_
    simp only [Act.put, sA, sZ, sS]
    refine takeNot 13 17 rfl rfl (by kernel_rfl) (by kernel_rfl) (by kernel_rfl) rfl (by assumption) ?_
    simp only [Act.put, sA, sZ, sS]
    refine takeNot 14 18 rfl rfl (by kernel_rfl) (by kernel_rfl) (by kernel_rfl) rfl (by assumption) ?_
    simp only [Act.put, sA, sZ, sS]
    refine takeNot 15 19 rfl rfl (by kernel_rfl) (by kernel_rfl) (by kernel_rfl) rfl (by assumption) ?_
    simp only [Act.put, sA, sZ, sS]
    refine tk 16 20 (v := .bool true) rfl rfl (fun W hW => rfl) ?_
    simp only [Act.put, sA, sZ, sS]
    refine tk 17 3 (v := .bool true) rfl rfl (fun W hW => exec_assign rfl rfl) ?_
    simp only [Act.put, sA, sZ, sS]
    refine done (by kernel_rfl) ?_ _
    go_wp2
    go_ret
    exact ⟨ret_bool (by rw [HR.out]; simp [h1]), hU0.below⟩
theorem index_stor {w : World} {b : Nat} {p : Option Addr} {c : Nat} {l : List V} (hl : LRd w p c l) (hb : w.heap[b]? = some (.cells #[.slice p l.length c] 46 (0, 0))) :
    Calls Tryz.prog 204 #[.slice p l.length c, .func (.func 182) #[] #[.pointer (some ⟨b, 0, none⟩)]] w fun e w' => (∃ i : Int, e = .returned (.int .i64 i) ∧ decide (0 ≤ i) = !(storL l)) ∧ Below w.heap.size w w' := by
  have z1 : (l.length : Int) ≤ 140737488355328 := by have := hl.1.1; have := hl.1.2.1; omega
  have HL := Lib.hid (And.intro hl hb)
  clear hl hb
  go_enter Tryz.func204, Tryz.ntmps204
  go_wp2
  go_loopw [8] (fun i W => ∃ j : Nat, j ≤ l.length ∧ i = .int .i64 (j : Int) ∧ Hid (Below w.heap.size w W ∧ (l.take j).all (fun x => !(badB x.kind ((l.map V.kind).headD 0))) = true)) (fun i _ => l.length - (intOf i).toNat)
  case atStart => exact ⟨0, Nat.zero_le _, rfl, Lib.hid ⟨Below.refl _ _, rfl⟩⟩
  case round =>
    obtain ⟨j, hj, rfl, HJ⟩ := hrel
    by_cases hlt : j < l.length
    · have hlt1 : j + 1 ≤ l.length := hlt
      have hpos : 0 < l.length := by omega
      obtain ⟨hb, hf⟩ := HJ.out
      have htk : (l.take (j + 1)).all (fun x => !(badB x.kind ((l.map V.kind).headD 0))) = !(badB l[j].kind ((l.map V.kind).headD 0)) := by
        rw [List.take_succ_eq_append_getElem hlt, List.all_append, hf]; simp
      have hbad : badB l[j].kind ((l.map V.kind).headD 0) = true → storL l = false := fun h => by
        unfold storL; rw [List.all_eq_false]; exact ⟨l[j], List.getElem_mem hlt, by rw [h]; simp⟩
      have hL2 := HL.out.1.below hb
      obtain ⟨g0, o0, pk0, ck0, pl0, cl0, hp0, ⟨b0, _⟩, _⟩ := hL2.at hpos
      have hk0 : l[0].kind = (l.map V.kind).headD 0 := by cases l with
        | nil => simp at hpos
        | cons a r => rfl
      obtain ⟨g1, o1, pk1, ck1, pl1, cl1, rfl, ⟨a0, a1, a2, a3, a4, a5⟩, hv1⟩ := hL2.at hlt
      cases hp0
      rw [hk0, Nat.zero_mul, Nat.add_zero] at b0
      have hcall := bad_any hv1 (belowBlk hb (Array.getElem?_eq_some_iff.1 HL.out.2).1 HL.out.2) b0 hpos
      clear b0 hk0
      generalize (l.map V.kind).headD 0 = k0 at *
      generalize hon : badB l[j].kind k0 = on at *
      clear hon
      generalize l[j] = s1 at *
      have HD := Lib.hid (And.intro htk (And.intro hbad (And.intro hcall hb)))
      clear htk hbad hcall hb hf hv1 HJ hL2
      cases on with
      | true =>
        go_wp2_with (go_at_call 182
                     (
                       refine HD.out.2.2.1.mono ?_
                       rintro e w1 ⟨rfl, hb1⟩
                       have HB := Lib.hid hb1
                       clear hb1))
        go_ret
        refine ⟨⟨_, rfl, ?_⟩, below_trans HD.out.2.2.2 HB.out⟩
        rw [HD.out.2.1 (by simp)]; simp
      | false =>
        go_wp2_with (go_at_call 182
                     (
                       refine HD.out.2.2.1.mono ?_
                       rintro e w1 ⟨rfl, hb1⟩
                       have HB := Lib.hid hb1
                       clear hb1))
        go_roundw
        case rel => exact ⟨j + 1, hlt1, by go_num, Lib.hid ⟨below_trans HD.out.2.2.2 HB.out, HD.out.1⟩⟩
        case measure => simp [intOf]; omega
    · obtain rfl : j = l.length := by omega
      have hfin : storL l = true := by have h := HJ.out.2; rwa [List.take_length] at h
      have HF := Lib.hid (And.intro hfin HJ.out.1)
      clear hfin HJ
      go_wp2
      go_ret
      exact ⟨⟨_, rfl, by rw [HF.out.1]; simp⟩, HF.out.2⟩
theorem contains_stor {w : World} {b : Nat} {p : Option Addr} {c : Nat} {l : List V} (hl : LRd w p c l) (hb : w.heap[b]? = some (.cells #[.slice p l.length c] 46 (0, 0))) :
    Calls Tryz.prog 183 #[.slice p l.length c, .func (.func 182) #[] #[.pointer (some ⟨b, 0, none⟩)]] w fun e w' => e = .returned (.bool (!(storL l))) ∧ Below w.heap.size w w' := by
  have HC := Lib.hid (index_stor hl hb)
  clear hl hb
  go_enter Tryz.func183, Tryz.ntmps183
  go_wp2_with (go_at_call 204; refine HC.out.mono ?_; rintro e w1 ⟨⟨i, rfl, hi⟩, hb1⟩; have HB := Lib.hid (And.intro hi hb1); clear hi hb1)
  go_ret
  exact ⟨ret_bool HB.out.1, HB.out.2⟩
structure StorB (w : World) (x : Array Value) (p : Option Addr) (n c : Nat) (W : World) : Prop where
  one : W.heap[w.heap.size]? = some (.cells x 48 (0, 0))
  box : W.heap[w.heap.size + 2]? = some (.cells #[.slice p n c] 46 (0, 0))
  below : Below w.heap.size w W
theorem stor_fine {w : World} {v : V} {c0 c1 c2 c3 c4 c5 : Value} (hE : Env w) (hx : VRd w v #[c0, c1, c2, c3, c4, c5]) (ht : totV v ≤ 1099511627776) (p : Option Addr) (n c : Nat) :
    Calls Tryz.prog 172 #[.slice (some ⟨w.heap.size + 1 + 1 + 1, 0, none⟩) 1 1] ((((w.alloc (.cells #[c0, c1, c2, c3, c4, c5] 48)).alloc (.cells #[c0, c1, c2, c3, c4, c5] 48)).alloc (.cells #[.slice p n c] 46)).alloc (.cells #[c0, c1, c2, c3, c4, c5] 48))
      fun e w' => e = .returned (.bool (okV v)) ∧ StorB w #[c0, c1, c2, c3, c4, c5] p n c w' ∧ w'.heap[w.heap.size + 1]? = some (.cells #[c0, c1, c2, c3, c4, c5] 48 (0, 0)) := by
  have b1 : Below w.heap.size w (w.alloc (.cells #[c0, c1, c2, c3, c4, c5] 48)) := below_new _
  have h1 := heap_alloc_new w (.cells #[c0, c1, c2, c3, c4, c5] 48)
  have s1 : (w.alloc (.cells #[c0, c1, c2, c3, c4, c5] 48)).heap.size = w.heap.size + 1 := by simp
  generalize w.alloc (.cells #[c0, c1, c2, c3, c4, c5] 48) = w1 at *
  have b2 : Below w1.heap.size w1 (w1.alloc (.cells #[c0, c1, c2, c3, c4, c5] 48)) := below_new _
  have h2 := heap_alloc_new w1 (.cells #[c0, c1, c2, c3, c4, c5] 48)
  have s2 : (w1.alloc (.cells #[c0, c1, c2, c3, c4, c5] 48)).heap.size = w1.heap.size + 1 := by simp
  generalize w1.alloc (.cells #[c0, c1, c2, c3, c4, c5] 48) = w2 at *
  have b3 : Below w2.heap.size w2 (w2.alloc (.cells #[.slice p n c] 46)) := below_new _
  have h3 := heap_alloc_new w2 (.cells #[.slice p n c] 46)
  have s3 : (w2.alloc (.cells #[.slice p n c] 46)).heap.size = w2.heap.size + 1 := by simp
  generalize w2.alloc (.cells #[.slice p n c] 46) = w3 at *
  have b4 : Below w3.heap.size w3 (w3.alloc (.cells #[c0, c1, c2, c3, c4, c5] 48)) := below_new _
  have h4 := heap_alloc_new w3 (.cells #[c0, c1, c2, c3, c4, c5] 48)
  have e3 : w3.heap.size = w.heap.size + 1 + 1 + 1 := by omega
  rw [e3] at h4
  generalize w3.alloc (.cells #[c0, c1, c2, c3, c4, c5] 48) = w4 at *
  have g2 := below_trans b1 b2
  have g3 := below_trans g2 b3
  have g4 := below_trans g3 b4
  have hL := LRd.one h4 (hx.below g4)
  refine (fine_any (hE.b g4) hL (by simp only [totVs]; omega)).mono ?_
  rintro e w5 ⟨rfl, b5⟩
  have k1 := below_trans b2 (below_trans b3 (below_trans b4 b5))
  have k3 := below_trans b4 b5
  have e2 : w2.heap.size = w.heap.size + 2 := by omega
  have e1 : w1.heap.size = w.heap.size + 1 := by omega
  rw [e2] at h3
  rw [e1] at h2
  have k2 := below_trans b3 k3
  exact ⟨ret_bool (by simp [fineL]), ⟨belowBlk k1 (by omega) h1, belowBlk k3 (by omega) h3, below_trans g4 b5⟩, belowBlk k2 (by omega) h2⟩
theorem storable_any {v : V} {w : World} {x : Array Value} (hE : Env w) (hx : VRd w v x) (ht : totV v ≤ 1099511627776) :
    Calls Tryz.prog 165 #[.agg x] w fun e w' => e = .returned (.bool (okV v && storB v)) ∧ Below w.heap.size w w' := by
  obtain ⟨pk, ck, pl, cl, rfl, htx, hk1, hl1⟩ := hx.open
  have HR := Lib.hid (show storB v = storL (if v.kind = 4 then v.list else [v]) from rfl)
  generalize storB v = R at *
  have hF := fun p n c => stor_fine hE hx ht p n c
  generalize okV v = ok at *
  by_cases h4 : v.kind = 4
  · have HR2 := Lib.hid (show R = storL v.list by rw [HR.out, if_pos h4])
    have HF := Lib.hid (hF pl v.list.length cl)
    have HC := Lib.hid (fun (W : World) (hb : StorB w #[.int .i64 v.kind, .bool v.b, .int .i64 v.n, .string (strB v.text), .slice pk v.keys.length ck, .slice pl v.list.length cl] pl v.list.length cl W) => contains_stor (hl1.below hb.below) hb.box)
    clear HR hF
    rw [← HR2.out] at HC
    rw [h4] at HF HC
    rw [h4]
    clear hx hl1 hE ht htx hk1 h4 HR2
    cases ok with
    | false =>
      go_enter Tryz.func165, Tryz.ntmps165
      go_wp2_with (go_at_call 172; (refine HF.out.mono ?_; rintro e w1 ⟨rfl, hS, _⟩; have HS := Lib.hid hS; clear hS))
      go_ret
      exact ⟨rfl, HS.out.below⟩
    | true =>
      go_enter Tryz.func165, Tryz.ntmps165
      go_wp2_with (first
        | (go_at_call 172
           (
             refine HF.out.mono ?_
             rintro e w1 ⟨rfl, hS, _⟩
             have q0 := cellOf (o := 0) hS.box rfl
             have HS := Lib.hid hS
             clear hS))
        | (go_at_call 183
           (
             refine (HC.out _ HS.out).mono ?_
             rintro e w2 ⟨rfl, hb⟩
             have HB := Lib.hid (below_trans HS.out.below hb)
             clear hb)))
      go_ret
      exact ⟨ret_bool (by simp), HB.out⟩
  · have HR2 := Lib.hid (show R = storL [v] by rw [HR.out, if_neg h4])
    have h4f : (v.kind == 4) = false := by rw [beq_eq_false_iff_ne]; exact h4
    have HF := Lib.hid (hF (some ⟨w.heap.size + 1, 0, none⟩) 1 1)
    have HC := Lib.hid (fun (W : World) (hb : StorB w #[.int .i64 v.kind, .bool v.b, .int .i64 v.n, .string (strB v.text), .slice pk v.keys.length ck, .slice pl v.list.length cl] (some ⟨w.heap.size + 1, 0, none⟩) 1 1 W) (h : W.heap[w.heap.size + 1]? = some (.cells #[.int .i64 v.kind, .bool v.b, .int .i64 v.n, .string (strB v.text), .slice pk v.keys.length ck, .slice pl v.list.length cl] 48 (0, 0))) =>
      contains_stor (l := [v]) (LRd.one h (hx.below hb.below)) hb.box)
    clear HR hF
    rw [← HR2.out] at HC
    clear hx hl1 hE ht htx hk1 h4 HR2
    cases ok with
    | false =>
      go_enter Tryz.func165, Tryz.ntmps165
      go_wp2_with (go_at_call 172; (refine HF.out.mono ?_; rintro e w1 ⟨rfl, hS, _⟩; have HS := Lib.hid hS; clear hS))
      go_ret
      exact ⟨rfl, HS.out.below⟩
    | true =>
      go_enter Tryz.func165, Tryz.ntmps165
      go_wp2_with (first
        | (go_at_call 172
           (
             refine HF.out.mono ?_
             rintro e w1 ⟨rfl, hS, hS2⟩
             have q0 := cellOf (o := 0) hS.box rfl
             have HS := Lib.hid (And.intro hS hS2)
             clear hS hS2))
        | (go_at_call 183
           (
             refine (HC.out _ HS.out.1 HS.out.2).mono ?_
             rintro e w2 ⟨rfl, hb⟩
             have HB := Lib.hid (below_trans HS.out.1.below hb)
             clear hb)))
      go_ret
      exact ⟨ret_bool (by simp), HB.out⟩
end Go.Proofs.YthdfedfholmbmaaGreatDoor

namespace Go.Proofs.YthdfedfholmbmaaGreatDoor
def okNm (s : List UInt8) : Bool := !s.isEmpty && decide (s.length ≤ 64) && Lib.validD s && !s.contains 0
def okSt (v : V) : Bool := okV v && storB v
def okPs (l : List PropD) : Bool := (l.all fun p => okNm p.key && okSt p.val) && risesB (l.map PropD.key)
def okN (n : NodeD) : Bool := decide (0 ≤ n.id) && risesB n.labels && okPs n.props && n.labels.all okNm
def okR (r : RelD) : Bool := decide (0 ≤ r.id) && okNm r.type && okPs r.props
def risesI : List Int → Bool
  | [] => true
  | [_] => true
  | a :: b :: r => decide (a < b) && risesI (b :: r)
def okNs (g : GraphD) : Bool := (g.nodes.all fun n => okN n && decide (n.id < g.nextNode)) && risesI (g.nodes.map NodeD.id)
def hasN (g : GraphD) (i : Int) : Bool := g.nodes.any fun n => n.id == i
def okRs (g : GraphD) : Bool := (g.rels.all fun r => okR r && decide (r.id < g.nextRel) && hasN g r.src && hasN g r.dst) && risesI (g.rels.map RelD.id)
def okSz (g : GraphD) : Bool := decide (g.nodes.length + g.rels.length ≤ 65536) && decide (0 ≤ g.nextNode) && decide (g.nextNode ≤ 4611686018427387904) && decide (0 ≤ g.nextRel) && decide (g.nextRel ≤ 4611686018427387904)
def okG (g : GraphD) : Bool := okSz g && okNs g && okRs g
def okC (c : ChangeD) : Bool :=
  if c.kind = 0 then okG ⟨[c.node], [], 4611686018427387904, 4611686018427387904⟩
  else if c.kind = 1 then okG ⟨if c.rel.src = c.rel.dst then [⟨c.rel.src, [], []⟩] else [⟨min c.rel.src c.rel.dst, [], []⟩, ⟨max c.rel.src c.rel.dst, [], []⟩], [c.rel], 4611686018427387904, 4611686018427387904⟩
  else decide (2 ≤ c.kind) && decide (c.kind ≤ 4)
def toldC (c : ChangeD) : ChangeD :=
  if c.kind = 0 then ⟨0, 0, 0, c.node, rel0⟩ else if c.kind = 1 then ⟨1, 0, 0, node0, c.rel⟩ else if c.kind = 4 then ⟨4, c.id, c.other, node0, rel0⟩ else ⟨c.kind, c.id, 0, node0, rel0⟩
theorem mem_sum {α : Type} (f : α → Nat) {l : List α} {x : α} (h : x ∈ l) : f x ≤ (l.map f).sum := by
  induction l with
  | nil => cases h
  | cons a l ih =>
    rw [List.map_cons, List.sum_cons]
    rcases List.mem_cons.1 h with rfl | h
    · omega
    · have := ih h; omega
theorem len_sum {α : Type} (f : α → Nat) {l : List α} (h : ∀ x ∈ l, 1 ≤ f x) : l.length ≤ (l.map f).sum := by
  induction l with
  | nil => simp
  | cons a l ih =>
    rw [List.map_cons, List.sum_cons, List.length_cons]
    have := h a (by simp)
    have := ih fun x hx => h x (by simp [hx])
    omega
theorem wf_of_okV {v : V} (h : okV v = true) (hr : rngV v) (ht : totV v < 18446744073709551616) : wfV 64 v := by
  unfold okV at h
  exact wf_of_check (u := Lib.validD) (by simpa using h) hr ht
theorem wf_of_okPs {l : List PropD} (h : okPs l = true) (hr : ∀ p ∈ l, rngP p) (ht : totPs l < 18446744073709551616) : wfPs l := by
  unfold okPs at h
  simp only [Bool.and_eq_true, List.all_eq_true] at h
  have h1 : l.length ≤ totPs l := len_sum totP fun p _ => by unfold totP; omega
  refine ⟨by unfold u64T; omega, fun p hp => ?_⟩
  have h2 : totP p ≤ totPs l := mem_sum totP hp
  have h3 := h.1 p hp
  unfold okSt at h3
  simp only [Bool.and_eq_true] at h3
  unfold totP at h2
  exact ⟨by unfold u64T; omega, wf_of_okV h3.2.1 (hr p hp) (by omega)⟩
theorem wf_of_okLs {l : List (List UInt8)} (ht : totLs l < 18446744073709551616) : wfLs l := by
  have h1 : l.length ≤ totLs l := len_sum (fun s : List UInt8 => 1 + s.length) fun p _ => by omega
  refine ⟨by unfold u64T; omega, fun s hs => ?_⟩
  have h2 : 1 + s.length ≤ totLs l := mem_sum (fun s : List UInt8 => 1 + s.length) hs
  unfold u64T; omega
theorem wf_of_okN {n : NodeD} (h : okN n = true) (hr : rngN n) (ht : totN n < 18446744073709551616) : wfN n := by
  unfold okN at h
  simp only [Bool.and_eq_true] at h
  unfold totN at ht
  exact ⟨hr.1, wf_of_okLs (by omega), wf_of_okPs h.1.2 hr.2 (by omega)⟩
theorem wf_of_okR {r : RelD} (h : okR r = true) (hr : rngR r) (ht : totR r < 18446744073709551616) : wfR r := by
  unfold okR at h
  simp only [Bool.and_eq_true] at h
  unfold totR at ht
  exact ⟨hr.1, hr.2.1, hr.2.2.1, by unfold u64T; omega, wf_of_okPs h.2 hr.2.2.2 (by omega)⟩
theorem wf_of_okG {g : GraphD} (h : okG g = true) (hr : rngG g) (ht : totG g < 18446744073709551616) : wfG g := by
  unfold okG okNs okRs at h
  simp only [Bool.and_eq_true, List.all_eq_true] at h
  unfold totG at ht
  have h1 : g.nodes.length ≤ (g.nodes.map totN).sum := len_sum totN fun n _ => totN_pos n
  have h2 : g.rels.length ≤ (g.rels.map totR).sum := len_sum totR fun n _ => totR_pos n
  refine ⟨⟨by unfold u64T; omega, fun n hn => ?_⟩, ⟨by unfold u64T; omega, fun r hrr => ?_⟩, hr.2.2.1, hr.2.2.2⟩
  · exact wf_of_okN (h.1.2.1 n hn).1 (hr.1 n hn) (by have := mem_sum totN hn; omega)
  · exact wf_of_okR (h.2.1 r hrr).1.1.1 (hr.2.1 r hrr) (by have := mem_sum totR hrr; omega)
theorem okG_node {n : NodeD} {k m : Int} {rs : List RelD} (h : okG ⟨[n], rs, k, m⟩ = true) : okN n = true := by
  unfold okG okNs at h
  simp only [Bool.and_eq_true, List.all_eq_true] at h
  exact (h.1.2.1 n (by simp)).1
theorem okG_rel {r : RelD} {k m : Int} {ns : List NodeD} (h : okG ⟨ns, [r], k, m⟩ = true) : okR r = true := by
  unfold okG okRs at h
  simp only [Bool.and_eq_true, List.all_eq_true] at h
  exact (h.2.1 r (by simp)).1.1.1
theorem wf_of_okC {c : ChangeD} (h : okC c = true) (hr : rngC c) (ht : totC c < 18446744073709551616) : wfC (toldC c) := by
  unfold okC at h
  unfold totC at ht
  obtain ⟨k0, k1, k2, k3, k4⟩ := hr
  unfold toldC wfC
  split at h
  · rename_i e
    rw [if_pos e]
    exact .inl ⟨rfl, rfl, rfl, wf_of_okN (n := c.node) (okG_node h) k3 (by omega), rfl⟩
  · split at h
    · rename_i e0 e
      rw [if_neg e0, if_pos e]
      exact .inr (.inl ⟨rfl, rfl, rfl, rfl, wf_of_okR (r := c.rel) (okG_rel h) k4 (by omega)⟩)
    · rename_i e0 e1
      simp only [Bool.and_eq_true, decide_eq_true_eq] at h
      rw [if_neg e0, if_neg e1]
      by_cases e4 : c.kind = 4
      · rw [if_pos e4]
        exact .inr (.inr (.inr ⟨rfl, k1, k2, rfl, rfl⟩))
      · rw [if_neg e4]
        exact .inr (.inr (.inl ⟨by simp only; omega, k1, rfl, rfl, rfl⟩))
end Go.Proofs.YthdfedfholmbmaaGreatDoor

namespace Go.Proofs.YthdfedfholmbmaaGreatDoor
def readW {α : Type} (d : Dec α) (ok : α → Bool) (b : List UInt8) : Option α := match d b with
  | some (x, []) => if ok x then some x else none
  | _ => none
section
variable {α : Type} {d : Dec α} {e : α → List UInt8} {P : α → Prop} {ok : α → Bool} {f : Rs → α × Rs} {sz : α → Nat} {R : α → Prop}
theorem readW_some {b : List UInt8} {x : α} (h : RT d e P) (hx : readW d ok b = some x) : b = e x ∧ P x ∧ ok x = true := by
  unfold readW at hx
  split at hx
  · rename_i y hd
    split at hx
    · rename_i hk
      cases hx
      obtain ⟨h1, h2⟩ := h.sound _ _ _ hd
      exact ⟨by simpa using h1, h2, hk⟩
    · cases hx
  · cases hx
theorem readW_of {x : α} (h : RT d e P) (hP : P x) (hk : ok x = true) : readW d ok (e x) = some x := by
  unfold readW
  have := h.full x [] hP
  rw [List.append_nil] at this
  rw [this]
  simp only [hk, if_true]
theorem back_same {x y : α} (h : RT d e P) (hx : P x) (hy : P y) : e x = e y → x = y := fun he => (h.one (r := []) (s := []) hx hy (by rw [he])).1
theorem no_begin {x y : α} {r : List UInt8} (h : RT d e P) (hx : P x) (hy : P y) (he : e y = e x ++ r) : r = [] := by
  have := h.one (r := r) (s := []) hx hy (by rw [he, List.append_nil])
  exact this.2
theorem short_none {x : α} (h : RT d e P) (hx : P x) {b r : List UInt8} (hr : r ≠ []) (hb : e x = b ++ r) : readW d ok b = none := by
  cases hh : readW d ok b with
  | none => rfl
  | some y =>
    obtain ⟨h1, h2, _⟩ := readW_some h hh
    rw [h1] at hb
    exact absurd (no_begin h h2 hx hb) hr
theorem long_none {x : α} (h : RT d e P) (hx : P x) {r : List UInt8} (hr : r ≠ []) : readW d ok (e x ++ r) = none := by
  cases hh : readW d ok (e x ++ r) with
  | none => rfl
  | some y =>
    obtain ⟨h1, h2, _⟩ := readW_some h hh
    exact absurd (no_begin h hx h2 h1.symm) hr
end
theorem numB_len : ∀ (k n : Nat), n < 128 ^ k → 1 ≤ k → (numB n).length ≤ k
  | 0, n, h, hk => by omega
  | k + 1, n, h, hk => by
    by_cases hn : n < 128
    · rw [numB_low hn]; simp
    · rw [numB_high hn, List.length_cons]
      have hk0 : k ≠ 0 := fun e => by subst e; simp at h; omega
      have : n / 128 < 128 ^ k := by rw [Nat.div_lt_iff_lt_mul (by omega), ← Nat.pow_succ]; exact h
      have := numB_len k (n / 128) this (by omega)
      omega
theorem numB_ten {n : Nat} (h : u64T n) : (numB n).length ≤ 10 := by
  have h2 : (18446744073709551616 : Nat) ≤ 128 ^ 10 := by decide
  exact numB_len 10 n (Nat.lt_of_lt_of_le h h2) (by omega)
end Go.Proofs.YthdfedfholmbmaaGreatDoor

namespace Go.Proofs.YthdfedfholmbmaaGreatDoor
def all2 {α β : Type} (f : α → β → Bool) : List α → List β → Bool
  | [], [] => true
  | a :: x, b :: y => f a b && all2 f x y
  | _, _ => false
theorem all2_eq {α : Type} {f : α → α → Bool} : ∀ {l m : List α}, (∀ x ∈ l, ∀ y ∈ m, (f x y = true ↔ x = y)) → (all2 f l m = true ↔ l = m)
  | [], [], _ => by simp [all2]
  | [], _ :: _, _ => by simp [all2]
  | _ :: _, [], _ => by simp [all2]
  | a :: x, b :: y, h => by
    have h1 := h a (by simp) b (by simp)
    have h2 := all2_eq (f := f) (l := x) (m := y) fun u hu v hv => h u (by simp [hu]) v (by simp [hv])
    rw [all2, Bool.and_eq_true, h1, h2, List.cons.injEq]
theorem all2_len {α β : Type} {f : α → β → Bool} : ∀ {l : List α} {m : List β}, all2 f l m = true → l.length = m.length
  | [], [], _ => rfl
  | [], _ :: _, h => by simp [all2] at h
  | _ :: _, [], h => by simp [all2] at h
  | a :: x, b :: y, h => by
    rw [all2, Bool.and_eq_true] at h
    rw [List.length_cons, List.length_cons, all2_len h.2]
def sameV (a b : V) : Bool := okV a && okV b && decide (cmpV a b = 0)
def sameP (p q : PropD) : Bool := decide (p.key = q.key) && sameV p.val q.val
def sameN (a b : NodeD) : Bool := decide (a.id = b.id) && decide (a.labels = b.labels) && all2 sameP a.props b.props
def sameR (a b : RelD) : Bool := decide (a.id = b.id) && decide (a.src = b.src) && decide (a.dst = b.dst) && decide (a.type = b.type) && all2 sameP a.props b.props
def sameG (a b : GraphD) : Bool := decide (a.nextNode = b.nextNode) && decide (a.nextRel = b.nextRel) && all2 sameN a.nodes b.nodes && all2 sameR a.rels b.rels
theorem okV_mayV {v : V} (h : okV v = true) : mayV Lib.validD v = true := by
  unfold okV checkV at h
  split at h
  · assumption
  · simp at h
theorem cmpV_refl (v : V) : cmpV v v = 0 := (ord_cmpV v).self
theorem sameV_iff {a b : V} (ha : okV a = true) (hb : okV b = true) : sameV a b = true ↔ a = b := by
  unfold sameV
  rw [ha, hb]
  simp only [Bool.and_self, Bool.true_and, decide_eq_true_eq]
  constructor
  · exact fun h => cmpV_zero a (okV_mayV ha) b (okV_mayV hb) h
  · rintro rfl; exact cmpV_refl a
theorem okPs_val {l : List PropD} (h : okPs l = true) : ∀ p ∈ l, okV p.val = true := fun p hp => by
  unfold okPs at h
  simp only [Bool.and_eq_true, List.all_eq_true] at h
  have := h.1 p hp
  unfold okSt at this
  simp only [Bool.and_eq_true] at this
  exact this.2.1
theorem sameP_iff {p q : PropD} (hp : okV p.val = true) (hq : okV q.val = true) : sameP p q = true ↔ p = q := by
  unfold sameP
  obtain ⟨k, v⟩ := p
  obtain ⟨k', v'⟩ := q
  simp only [Bool.and_eq_true, decide_eq_true_eq, PropD.mk.injEq]
  rw [sameV_iff hp hq]
theorem samePs_iff {l m : List PropD} (hl : okPs l = true) (hm : okPs m = true) : all2 sameP l m = true ↔ l = m :=
  all2_eq fun p hp q hq => sameP_iff (okPs_val hl p hp) (okPs_val hm q hq)
theorem okN_props {n : NodeD} (h : okN n = true) : okPs n.props = true := by
  unfold okN at h
  simp only [Bool.and_eq_true] at h
  exact h.1.2
theorem okR_props {n : RelD} (h : okR n = true) : okPs n.props = true := by
  unfold okR at h
  simp only [Bool.and_eq_true] at h
  exact h.2
theorem sameN_iff {a b : NodeD} (ha : okN a = true) (hb : okN b = true) : sameN a b = true ↔ a = b := by
  have := samePs_iff (okN_props ha) (okN_props hb)
  unfold sameN
  obtain ⟨x1, x2, x3⟩ := a
  obtain ⟨y1, y2, y3⟩ := b
  simp only [Bool.and_eq_true, decide_eq_true_eq, NodeD.mk.injEq] at this ⊢
  rw [this, and_assoc]
theorem sameR_iff {a b : RelD} (ha : okR a = true) (hb : okR b = true) : sameR a b = true ↔ a = b := by
  have := samePs_iff (okR_props ha) (okR_props hb)
  unfold sameR
  obtain ⟨x1, x2, x3, x4, x5⟩ := a
  obtain ⟨y1, y2, y3, y4, y5⟩ := b
  simp only [Bool.and_eq_true, decide_eq_true_eq, RelD.mk.injEq] at this ⊢
  rw [this, and_assoc, and_assoc, and_assoc]
theorem okG_nodes {g : GraphD} (h : okG g = true) : ∀ n ∈ g.nodes, okN n = true := fun n hn => by
  unfold okG okNs at h
  simp only [Bool.and_eq_true, List.all_eq_true] at h
  exact (h.1.2.1 n hn).1
theorem okG_rels {g : GraphD} (h : okG g = true) : ∀ n ∈ g.rels, okR n = true := fun n hn => by
  unfold okG okRs at h
  simp only [Bool.and_eq_true, List.all_eq_true] at h
  exact (h.2.1 n hn).1.1.1
theorem sameG_iff {a b : GraphD} (ha : okG a = true) (hb : okG b = true) : sameG a b = true ↔ a = b := by
  have h1 : all2 sameN a.nodes b.nodes = true ↔ a.nodes = b.nodes := all2_eq fun x hx y hy => sameN_iff (okG_nodes ha x hx) (okG_nodes hb y hy)
  have h2 : all2 sameR a.rels b.rels = true ↔ a.rels = b.rels := all2_eq fun x hx y hy => sameR_iff (okG_rels ha x hx) (okG_rels hb y hy)
  unfold sameG
  obtain ⟨x1, x2, x3, x4⟩ := a
  obtain ⟨y1, y2, y3, y4⟩ := b
  simp only [Bool.and_eq_true, decide_eq_true_eq, GraphD.mk.injEq] at h1 h2 ⊢
  rw [h1, h2]
  constructor
  · rintro ⟨⟨⟨e1, e2⟩, e3⟩, e4⟩; exact ⟨e3, e4, e1, e2⟩
  · rintro ⟨e1, e2, e3, e4⟩; exact ⟨⟨⟨e3, e4⟩, e1⟩, e2⟩
def beginsB (a b : List UInt8) : Bool := decide (a.length < b.length) && decide (b.take a.length = a)
theorem beginsB_not {α : Type} {d : Dec α} {e : α → List UInt8} {P : α → Prop} (h : RT d e P) {x y : α} (hx : P x) (hy : P y) : beginsB (e x) (e y) = false := by
  unfold beginsB
  rw [Bool.and_eq_false_iff]
  by_cases h1 : (e x).length < (e y).length
  · refine .inr (decide_eq_false fun h2 => ?_)
    have h3 : e y = e x ++ (e y).drop (e x).length := by
      conv => lhs; rw [← List.take_append_drop (e x).length (e y)]
      rw [h2]
    have h4 := congrArg List.length (no_begin h hx hy h3)
    simp only [List.length_drop, List.length_nil] at h4
    omega
  · exact .inl (decide_eq_false h1)
theorem bytes_same {α : Type} {d : Dec α} {e : α → List UInt8} {P : α → Prop} (h : RT d e P) {x y : α} (hx : P x) (hy : P y) : e x = e y ↔ x = y := ⟨back_same h hx hy, fun he => by rw [he]⟩
end Go.Proofs.YthdfedfholmbmaaGreatDoor

namespace Go.Proofs.YthdfedfholmbmaaGreatDoor
theorem risesI_step : ∀ {l : List Int} {j : Nat} (h : j + 1 < l.length), risesI (l.take (j + 2)) = (risesI (l.take (j + 1)) && decide (l[j] < l[j + 1]))
  | [], j, h => by simp at h
  | [_], j, h => by simp at h
  | a :: b :: r, 0, h => by simp [risesI]
  | a :: b :: r, j + 1, h => by
    have ih := risesI_step (l := b :: r) (j := j) (by simpa using h)
    simp only [List.take_succ_cons] at ih ⊢
    rw [risesI, risesI, ih]
    simp only [List.getElem_cons_succ, Bool.and_assoc]
theorem risesI_one (l : List Int) : risesI (l.take 1) = true := by
  cases l with
  | nil => rfl
  | cons a r => simp [risesI]
theorem risesI_lt : ∀ {l : List Int}, risesI l = true → ∀ {a b : Nat} (hb : b < l.length) (h : a < b), l[a] < l[b]
  | [], _, a, b, hb, _ => by simp at hb
  | [_], _, a, b, hb, h => by simp at hb; omega
  | x :: y :: r, hr, a, b, hb, h => by
    rw [risesI, Bool.and_eq_true, decide_eq_true_eq] at hr
    have ih := fun (a b : Nat) (hb : b < (y :: r).length) (h : a < b) => risesI_lt (l := y :: r) hr.2 hb h
    cases b with
    | zero => omega
    | succ b =>
      have hb2 : b < (y :: r).length := by simpa using hb
      cases a with
      | zero =>
        simp only [List.getElem_cons_zero, List.getElem_cons_succ]
        cases b with
        | zero => exact hr.1
        | succ b =>
          have := ih 0 (b + 1) hb2 (by omega)
          simp only [List.getElem_cons_zero] at this
          have h1 := hr.1
          omega
      | succ a =>
        simp only [List.getElem_cons_succ]
        exact ih a b hb2 (by omega)
theorem found_of {l : List Int} {i : Nat} {x : Int} (h1 : ∀ t (ht : t < l.length), t < i → l[t] < x) (h2 : ∀ t (ht : t < l.length), i ≤ t → x ≤ l[t]) (hr : risesI l = true) (hi : i < l.length) : decide (l[i] = x) = l.any (· == x) := by
  by_cases e : l[i] = x
  · rw [decide_eq_true e]
    exact (List.any_eq_true.2 ⟨l[i], List.getElem_mem hi, by simpa using e⟩).symm
  · rw [decide_eq_false e]
    symm
    rw [List.any_eq_false]
    intro y hy hyx
    obtain ⟨t, ht, rfl⟩ := List.getElem_of_mem hy
    have hx : l[t] = x := by simpa using hyx
    by_cases h : t < i
    · have := h1 t ht h; omega
    · by_cases h' : t = i
      · subst h'; exact e hx
      · have := risesI_lt hr ht (show i < t by omega)
        have := h2 i hi (Nat.le_refl _)
        omega
theorem found_none {l : List Int} {x : Int} (h1 : ∀ t (ht : t < l.length), l[t] < x) : l.any (· == x) = false := by
  rw [List.any_eq_false]
  intro y hy hyx
  obtain ⟨t, ht, rfl⟩ := List.getElem_of_mem hy
  have hx : l[t] = x := by simpa using hyx
  have := h1 t ht
  omega
theorem hasN_ids (g : GraphD) (x : Int) : hasN g x = (g.nodes.map NodeD.id).any (· == x) := by
  unfold hasN
  rw [List.any_map]
  rfl
end Go.Proofs.YthdfedfholmbmaaGreatDoor

namespace Go.Proofs.YthdfedfholmbmaaGreatDoor
section
variable {α : Type} {d : Dec α} {e : α → List UInt8} {f : Rs → α × Rs}
theorem flat_step {l : List α} {j : Nat} (h : j < l.length) : (l.take (j + 1)).flatMap e = (l.take j).flatMap e ++ e l[j] := by
  rw [List.take_succ_eq_append_getElem h, List.flatMap_append]
  simp
theorem rows_at (e : α → List UInt8) (l : List α) : numB l.length ++ (l.take l.length).flatMap e = rowsC e l := by
  rw [List.take_length]; rfl
def RepAt (d : Dec α) (n : Nat) (b : List UInt8) (l : List α) (r : List UInt8) : Prop := l.length ≤ n ∧ d.rep n b = (d.rep (n - l.length) r).map fun p => (l ++ p.1, p.2)
theorem RepAt.start (d : Dec α) (n : Nat) (b : List UInt8) : RepAt d n b [] b := by
  refine ⟨by simp, ?_⟩
  simp only [List.length_nil, Nat.sub_zero, List.nil_append]
  cases d.rep n b with
  | none => rfl
  | some p => rfl
theorem RepAt.step {n : Nat} {b r s : List UInt8} {l : List α} {x : α} (h : RepAt d n b l r) (hl : l.length < n) (hd : d r = some (x, s)) : RepAt d n b (l ++ [x]) s := by
  refine ⟨by rw [List.length_append]; simp; omega, ?_⟩
  rw [h.2]
  have e1 : n - l.length = (n - (l ++ [x]).length) + 1 := by rw [List.length_append]; simp; omega
  rw [e1, Dec.rep, hd]
  simp only
  cases d.rep (n - (l ++ [x]).length) s with
  | none => rfl
  | some p => simp
theorem RepAt.fail {n : Nat} {b r : List UInt8} {l : List α} (h : RepAt d n b l r) (hl : l.length < n) (hd : d r = none) : d.rep n b = none := by
  rw [h.2]
  have e1 : n - l.length = (n - l.length - 1) + 1 := by omega
  rw [e1, Dec.rep, hd]
  rfl
theorem RepAt.done {n : Nat} {b r : List UInt8} {l : List α} (h : RepAt d n b l r) (hl : l.length = n) : d.rep n b = some (l, r) := by
  rw [h.2, hl, Nat.sub_self, Dec.rep]
  simp
def LoopAt (f : Rs → α × Rs) (n : Nat) (s0 : Rs) (l : List α) (s : Rs) : Prop := l.length ≤ n ∧ docLoop f n s0 = (l ++ (docLoop f (n - l.length) s).1, (docLoop f (n - l.length) s).2)
theorem LoopAt.start (f : Rs → α × Rs) (n : Nat) (s : Rs) : LoopAt f n s [] s := ⟨by simp, by simp⟩
theorem LoopAt.step {n : Nat} {s0 s : Rs} {l : List α} (h : LoopAt f n s0 l s) (hl : l.length < n) (hb : s.2 = false) : LoopAt f n s0 (l ++ [(f s).1]) (f s).2 := by
  refine ⟨by rw [List.length_append]; simp; omega, ?_⟩
  rw [h.2]
  have e1 : n - l.length = (n - (l ++ [(f s).1]).length) + 1 := by rw [List.length_append]; simp; omega
  rw [e1, docLoop, if_neg (by rw [hb]; decide)]
  simp
end
theorem rdText_of {b r : List UInt8} {n : Nat} (h : rdN 0 0 b = some (n, r)) (hn : n ≤ r.length) : rdText b = some (r.take n, r.drop n) := by
  unfold rdText; rw [h]; simp only; rw [if_pos hn]
theorem rdText_short {b r : List UInt8} {n : Nat} (h : rdN 0 0 b = some (n, r)) (hn : ¬ n ≤ r.length) : rdText b = none := by
  unfold rdText; rw [h]; simp only; rw [if_neg hn]
theorem rdText_none {b : List UInt8} (h : rdN 0 0 b = none) : rdText b = none := by
  unfold rdText; rw [h]
theorem rdRows_of {α : Type} {d : Dec α} {b r : List UInt8} {n : Nat} (h : rdN 0 0 b = some (n, r)) (hn : n ≤ r.length) : rdRows d b = d.rep n r := by
  unfold rdRows; rw [h]; simp only; rw [if_pos hn]
theorem rdRows_short {α : Type} {d : Dec α} {b r : List UInt8} {n : Nat} (h : rdN 0 0 b = some (n, r)) (hn : ¬ n ≤ r.length) : rdRows d b = none := by
  unfold rdRows; rw [h]; simp only; rw [if_neg hn]
theorem rdRows_none {α : Type} {d : Dec α} {b : List UInt8} (h : rdN 0 0 b = none) : rdRows d b = none := by
  unfold rdRows; rw [h]
end Go.Proofs.YthdfedfholmbmaaGreatDoor

namespace Go.Proofs.YthdfedfholmbmaaGreatDoor
open Go.RowKit
theorem rdN_lt {l r : List UInt8} {n : Nat} (h : rdN 0 0 l = some (n, r)) : n < 18446744073709551616 := (rt_num.sound _ _ _ h).2
theorem ofInt_nat {a : Nat} (h : a < 18446744073709551616) : (BitVec.ofInt 64 (a : Int)).toNat = a := ofInt_u64 a h
theorem xor_m1 {a : Nat} (h1 : a < 9223372036854775808) : bits .xor .i64 (a : Int) (-1) = -(a : Int) - 1 := by
  show IntKind.i64.wrap ((BitVec.ofInt 64 (a : Int) ^^^ BitVec.ofInt 64 (-1)).toNat : Int) = _
  have e : BitVec.ofInt 64 (-1) = BitVec.allOnes 64 := by decide
  rw [e, BitVec.xor_allOnes, BitVec.toNat_not, ofInt_nat (by omega)]
  simp only [IntKind.wrap, IntKind.signed, IntKind.bits]
  simp
  omega
theorem xor_0 {a : Nat} (h1 : a < 9223372036854775808) : bits .xor .i64 (a : Int) 0 = (a : Int) := by
  show IntKind.i64.wrap ((BitVec.ofInt 64 (a : Int) ^^^ BitVec.ofInt 64 0).toNat : Int) = _
  have e : BitVec.ofInt 64 0 = 0#64 := by decide
  rw [e, BitVec.xor_zero, ofInt_nat (by omega)]
  simp only [IntKind.wrap, IntKind.signed, IntKind.bits]
  simp
  omega
theorem un_bits {n : Nat} (hn : n < 18446744073709551616) : bits .xor .i64 ((n : Int) / 2) (wrap64 (-wrap64 (bits .and .u64 (n : Int) 1))) = unzz n := by
  have h1 : bits .and .u64 (n : Int) 1 = ((n % 2 : Nat) : Int) := by
    have h := u64_and_nat n 1 hn (by decide)
    rw [nat_mask1] at h
    exact h
  rw [h1]
  unfold unzz
  have hev : n % 2 = 0 ∨ n % 2 = 1 := by omega
  rcases hev with e | e
  · rw [e, if_neg (by omega)]
    have e2 : wrap64 (-wrap64 ((0 : Nat) : Int)) = 0 := by simp [wrap64]
    rw [e2]
    exact xor_0 (a := n / 2) (by omega)
  · rw [e, if_pos rfl]
    have e2 : wrap64 (-wrap64 ((1 : Nat) : Int)) = -1 := by simp [wrap64]
    rw [e2]
    exact xor_m1 (a := n / 2) (by omega)
theorem rsigned_any {w W : World} {q : Nat} {l : List UInt8} (h : RSt 141 w W q l) :
    Calls Tryz.prog 123 #[.pointer (some ⟨q, 0, none⟩)] W (Reads w W q (rdSigned l) fun n v _ => v = .int .i64 n) := by
  have HN := Lib.hid (rnumber_any h)
  clear h
  unfold rdSigned Dec.map
  cases hr : rdN 0 0 l with
  | none =>
    rw [hr] at HN
    go_enter Tryz.func123, Tryz.ntmps123
    go_wp2_with (go_at_call 55; refine HN.out.mono ?_; rintro e W1 h1; obtain ⟨t1, hb1, rfl⟩ := h1.none; have H1 := Lib.hid (And.intro t1 hb1); clear h1 t1 hb1)
    exact ⟨rfl, H1.out.1, H1.out.2, rfl⟩
  | some p =>
    obtain ⟨n, r⟩ := p
    rw [hr] at HN
    have hn := rdN_lt hr
    have hev : n % 2 = 0 ∨ n % 2 = 1 := by omega
    have hun := un_bits hn
    go_enter Tryz.func123, Tryz.ntmps123
    go_wp2_with (go_at_call 55; refine HN.out.mono ?_; rintro e W1 h1; obtain ⟨t1, hb1, v1, rfl, rfl, s1⟩ := h1.some; have H1 := Lib.hid (And.intro t1 (And.intro hb1 s1)); clear h1 s1 t1 hb1)
    go_ret
    refine ⟨H1.out.1, H1.out.2.1, _, rfl, ?_, H1.out.2.2⟩
    show Value.int .i64 _ = Value.int .i64 (unzz n)
    rw [← hun]
end Go.Proofs.YthdfedfholmbmaaGreatDoor

namespace Go.Proofs.YthdfedfholmbmaaGreatDoor
open Go.RowKit
def isAggD (d : TypeDesc) : Bool := match d with | .struct _ | .array _ _ => true | _ => false
def StT (P : Program) (t : TypeId) (K : Nat) : Prop := ∃ d i, P.underlying t = some d ∧ isAggD d = true ∧ P.info? t = some i ∧ i.size = K
theorem StT.of {P : Program} {t : TypeId} {d : TypeDesc} {K : Nat} (hu : P.underlying t = some d) (hd : isAggD d = true) (hi : (P.info? t).map (·.size) = some K) : StT P t K := by
  obtain ⟨i, h1, h2⟩ := Option.map_eq_some_iff.1 hi
  exact ⟨d, i, hu, hd, h1, h2⟩
section
variable {P : Program} {t : TypeId} {K : Nat} {W : World} {cs : Array Value}
theorem StT.load (h : StT P t K) {g o : Nat} (hs : cs.size = K) (hc : ∀ (i : Nat) (u : Value), cs[i]? = some u → W.cell? ⟨g, o + i, none⟩ = some u) : (loadVar t ⟨g, o, none⟩).run P W = .ok (.agg cs) W := by
  obtain ⟨d, i, hu, hd, hi, hk⟩ := h
  have hl : (loadCells ⟨g, o, none⟩ cs.toList.length).run P W = .ok cs.toList.toArray W :=
    run_loadCells_list (P := P) W ⟨g, o, none⟩ cs.toList (fun j v hv => by
      rw [addr_add]
      exact hc j v (by simpa using hv))
  have hagg : (isAgg t).run P W = .ok true W := by
    cases d <;> simp_all [isAgg, isAggD, run_underlying hu]
  simp only [Array.toArray_toList, Array.length_toList, hs] at hl
  simp [loadVar, hagg, sizeOf, typeInfo, hi, hk, hl]
theorem StT.get (h : StT P t K) {g : Nat} {ty : TypeId} {fr : Nat × Nat} (hs : cs.size = K) (hg : W.heap[g]? = some (.cells cs ty fr)) : (loadVar t ⟨g, 0, none⟩).run P W = .ok (.agg cs) W :=
  h.load hs fun i u hu => by rw [Nat.zero_add, cell_of_row W g i cs ty fr hg]; exact hu
theorem setRow_fresh (z : Array Value) (ty : TypeId) : (W.alloc (.cells z ty)).setRow W.heap.size cs = W.alloc (.cells cs ty) := by
  exact World.setRow_alloc_new ..
theorem StT.put (h : StT P t K) {g : Nat} {z : Array Value} {ty : TypeId} (hs : cs.size = K) (h1 : ∀ u ∈ cs.toList, u.oneCell' = true) (hg : W.heap[g]? = some (.cells z ty (0, 0))) (hz : z.size = K) :
    (storeVar t ⟨g, 0, none⟩ (.agg cs)).run P W = .ok () (W.setRow g cs) := by
  obtain ⟨d, i, hu, hd, hi, hk⟩ := h
  exact run_storeVar_row (P := P) W g ty t z cs hg (by rw [hi, hs, ← hk]; rfl) (by rw [hz, hs]) (Array.all_eq_true_iff_forall_mem.2 fun u hu => h1 u (by simpa using hu))
theorem StT.fresh (h : StT P t K) (hs : cs.size = K) (h1 : ∀ u ∈ cs.toList, u.oneCell' = true) (z : Array Value) (hz : z.size = K) :
    (storeVar t ⟨W.heap.size, 0, none⟩ (.agg cs)).run P (W.alloc (.cells z t)) = .ok () (W.alloc (.cells cs t)) := by
  rw [h.put hs h1 (heap_alloc_new W _) hz, setRow_fresh]
end
structure EF {α : Type} (F : World → α → Array Value → Prop) (K : Nat) : Prop where
  below : ∀ {w w' : World} {x : α} {a : Array Value}, F w x a → Below w.heap.size w w' → F w' x a
  size : ∀ {w : World} {x : α} {a : Array Value}, F w x a → a.size = K
  ones : ∀ {w : World} {x : α} {a : Array Value}, F w x a → ∀ u ∈ a.toList, u.oneCell' = true
theorem ef_val : EF VRd 6 := by
  refine ⟨fun h g => h.below g, fun h => ?_, fun h u hu => ?_⟩
  · obtain ⟨pk, ck, pl, cl, rfl, _⟩ := h.open; rfl
  · obtain ⟨pk, ck, pl, cl, rfl, _⟩ := h.open
    simp only [List.mem_cons, List.not_mem_nil, or_false] at hu
    rcases hu with rfl | rfl | rfl | rfl | rfl | rfl <;> rfl
theorem ef_prop : EF PRd 7 := by
  refine ⟨fun h g => h.below g, fun h => ?_, fun h => ?_⟩
  · obtain ⟨y, rfl, _, h⟩ := h; rw [Array.size_append, ef_val.size h]; rfl
  · obtain ⟨y, rfl, _, h⟩ := h; exact ones_append (by simp [Value.oneCell']) (ef_val.ones h)
theorem ef_node : EF NRd 3 := by
  refine ⟨fun h g => h.below g, fun h => ?_, fun h u hu => ?_⟩
  · obtain ⟨pl, cl, pp, cp, rfl, _⟩ := h; rfl
  · obtain ⟨pl, cl, pp, cp, rfl, _⟩ := h
    simp only [List.mem_cons, List.not_mem_nil, or_false] at hu
    rcases hu with rfl | rfl | rfl <;> rfl
theorem ef_rel : EF RRd 5 := by
  refine ⟨fun h g => h.below g, fun h => ?_, fun h u hu => ?_⟩
  · obtain ⟨pp, cp, rfl, _⟩ := h; rfl
  · obtain ⟨pp, cp, rfl, _⟩ := h
    simp only [List.mem_cons, List.not_mem_nil, or_false] at hu
    rcases hu with rfl | rfl | rfl | rfl | rfl <;> rfl
theorem ef_change : EF CRd 11 := by
  refine ⟨fun h g => h.below g, fun h => ?_, fun h => ?_⟩
  · obtain ⟨a, b, rfl, h1, h2⟩ := h; rw [Array.size_append, Array.size_append, ef_node.size h1, ef_rel.size h2]; rfl
  · obtain ⟨a, b, rfl, h1, h2⟩ := h; exact ones_append (ones_append (by simp [Value.oneCell']) (ef_node.ones h1)) (ef_rel.ones h2)
theorem LRd.grd {w : World} {p : Option Addr} {c : Nat} {l : List V} (h : LRd w p c l) : GRd VRd 6 w p c l := by
  refine ⟨h.1, fun ad had => ⟨(h.2 ad had).1, fun j v hv => ?_⟩⟩
  obtain ⟨cs, ⟨c0, c1, c2, c3, c4, c5, e, h0, h1, h2, h3, h4, h5⟩, hv⟩ := (h.2 ad had).2 j v hv
  refine ⟨cs, by rw [e]; rfl, fun i u hu => ?_, hv⟩
  subst e
  match i, hu with
  | 0, hu => cases hu; exact h0
  | 1, hu => cases hu; exact h1
  | 2, hu => cases hu; exact h2
  | 3, hu => cases hu; exact h3
  | 4, hu => cases hu; exact h4
  | 5, hu => cases hu; exact h5
  | n + 6, hu => simp at hu
theorem st_val : StT Tryz.prog 48 6 := .of Tryz.underlying48 (by rfl) (by kernel_rfl)
theorem st_prop : StT Tryz.prog 136 7 := .of Tryz.underlying136 (by rfl) (by kernel_rfl)
theorem st_node : StT Tryz.prog 70 3 := .of Tryz.underlying70 (by rfl) (by kernel_rfl)
theorem st_rel : StT Tryz.prog 72 5 := .of Tryz.underlying72 (by rfl) (by kernel_rfl)
theorem st_change : StT Tryz.prog 74 11 := .of Tryz.underlying74 (by rfl) (by kernel_rfl)
theorem st_graph : StT Tryz.prog 25 4 := .of Tryz.underlying25 (by rfl) (by kernel_rfl)
end Go.Proofs.YthdfedfholmbmaaGreatDoor

namespace Go.Proofs.YthdfedfholmbmaaGreatDoor
open Go.RowKit
def SOwn (w : World) (P : Nat → Prop) (s : List UInt8) (x : Array Value) : Prop := x = #[.string (strB s)]
theorem el_str : EL SOwn 1 := by
  refine ⟨fun _ h => h, fun _ h => h, fun h => by rw [h]; rfl, fun h u hu => ?_⟩
  rw [h] at hu
  simp only [List.mem_cons, List.not_mem_nil, or_false] at hu
  subst hu; rfl
theorem info_prop : ∃ i, Tryz.prog.info? 136 = some i ∧ i.zero = some (.agg #[.string ⟨#[]⟩, .int .i64 0, .bool false, .int .i64 0, .string ⟨#[]⟩, .slice none 0 0, .slice none 0 0]) ∧ i.size = 7 ∧ i.bytes = 104 := info_parts (by kernel_rfl)
theorem info_node : ∃ i, Tryz.prog.info? 70 = some i ∧ i.zero = some (.agg #[.int .i64 0, .slice none 0 0, .slice none 0 0]) ∧ i.size = 3 ∧ i.bytes = 56 := info_parts (by kernel_rfl)
theorem info_rel : ∃ i, Tryz.prog.info? 72 = some i ∧ i.zero = some (.agg #[.int .i64 0, .int .i64 0, .int .i64 0, .string ⟨#[]⟩, .slice none 0 0]) ∧ i.size = 5 ∧ i.bytes = 64 := info_parts (by kernel_rfl)
theorem gt_val : GT Tryz.prog 48 46 6 := .of (bytes := 88) Tryz.underlying46 info_val rfl (by decide)
theorem gt_prop : GT Tryz.prog 136 68 7 := .of (bytes := 104) Tryz.underlying68 info_prop rfl (by decide)
theorem gt_node : GT Tryz.prog 70 22 3 := .of (bytes := 56) Tryz.underlying22 info_node rfl (by decide)
theorem gt_rel : GT Tryz.prog 72 23 5 := .of (bytes := 64) Tryz.underlying23 info_rel rfl (by decide)
theorem gt_str : GT Tryz.prog 9 45 1 := .of (bytes := 16) Tryz.underlying45 info_str rfl (by decide)
section
variable {α : Type} {E : World → (Nat → Prop) → α → Array Value → Prop} {K : Nat} {t T R : TypeId} {w W W1 W2 : World} {q : Nat} {J : List α → World → Value → Prop} {m : List α} {kv kv' ov : Value} {l' s : List UInt8}
structure KeepJ (w W : World) (q : Nat) (J : List α → World → Value → Prop) : Prop where
  keep : ∀ {m W1 W2 kv}, J m W1 kv → W1.heap.size ≤ W2.heap.size → Below w.heap.size w W2 → (∀ b, b < W1.heap.size → b ≠ q → (b < W.heap.size ∨ kv.ownBlock = some b) → W2.heap[b]? = W1.heap[b]?) → J m W2 kv
  lt : ∀ {m W1 kv}, J m W1 kv → ∀ b, kv.ownBlock = some b → b < W1.heap.size
structure RInv (R : TypeId) (E : World → (Nat → Prop) → α → Array Value → Prop) (t : TypeId) (K : Nat) (w W : World) (q : Nat) (J : List α → World → Value → Prop) (m : List α) (W1 : World) (kv ov : Value) (l' : List UInt8) : Prop where
  st : RSt R w W1 q l'
  j : J m W1 kv
  row : GIn E t K (fun b => W.heap.size ≤ b ∧ kv.ownBlock ≠ some b) W1 ov m
  size : W.heap.size ≤ W1.heap.size
  q : q < W.heap.size
structure ROne (R : TypeId) (E : World → (Nat → Prop) → α → Array Value → Prop) (w W : World) (q : Nat) (J : List α → World → Value → Prop) (m : List α) (W1 : World) (kv : Value) (x : α) (s : List UInt8) (cs : Array Value) (kv' : Value) (W2 : World) : Prop where
  size : W1.heap.size ≤ W2.heap.size
  keep : ∀ b, b < W1.heap.size → b ≠ q → W.heap.size ≤ b → kv.ownBlock ≠ some b → W2.heap[b]? = W1.heap[b]?
  it : E W2 (fun b => W1.heap.size ≤ b ∧ kv'.ownBlock ≠ some b) x cs
  st : RSt R w W2 q s
  j : J (m ++ [x]) W2 kv'
  own : kv'.ownBlock = kv.ownBlock ∨ ∀ b, kv'.ownBlock = some b → W1.heap.size ≤ b
theorem RInv.step {Pg : Program} (hE : EL E K) (hG : GT Pg t T K) (hJ : KeepJ w W q J) (h : RInv R E t K w W q J m W1 kv ov l') {x : α} {cs : Array Value} (g : ROne R E w W q J m W1 kv x s cs kv' W2) (hm : m.length ≤ 1000000) (ty : TypeId) {W3 : World} (hb : Below W2.heap.size W2 W3) :
    ∃ v' W4, (Builtin.append_ #[T, T] ty #[ov, .slice (some ⟨W3.heap.size, 0, none⟩) 1 1]).run Pg (W3.alloc (.cells cs t)) = .ok v' W4 ∧ RInv R E t K w W q J (m ++ [x]) W4 kv' v' s := by
  have hlt := hJ.lt g.j
  have hkl := hJ.lt h.j
  have hs3 := hb.size
  have hsz := g.size
  have hbs := h.size
  have hown : ∀ b, b < W1.heap.size → kv.ownBlock ≠ some b → kv'.ownBlock ≠ some b := fun b h1 h2 => by
    rcases g.own with e | e
    · rw [e]; exact h2
    · intro e2; have := e b e2; omega
  obtain ⟨v', W4, a1, a2, a3⟩ := h.row.step hE hG (P' := fun b => W.heap.size ≤ b ∧ kv'.ownBlock ≠ some b) (W1 := W3) (v := x) (x := cs)
    (fun b hp hl => (hb.block b (by omega)).trans (g.keep b hl (by have := h.q; omega) hp.1 hp.2)) (by omega) (fun b hl hp => ⟨hp.1, hown b hl hp.2⟩) (fun b hl => ⟨by omega, fun e => by have := hlt b e; omega⟩)
    (hE.imp (fun b _ hp => ⟨hp.1, by have := hp.1; omega, hp.2⟩) (hE.keep (fun b _ hl => hb.block b hl) g.it)) hm ty
  have hb4 : Below W2.heap.size W2 (W3.alloc (.cells cs t)) := below_trans hb (below_new _)
  have hrow := h.row.lt
  have hk4 : ∀ b, b < W2.heap.size → ov.ownBlock ≠ some b → W4.heap[b]? = W2.heap[b]? := fun b hl ho => (a3.block b (by have := hb4.size; omega) ho).trans (hb4.block b hl)
  have hB4 : Below w.heap.size w W4 := by
    refine a3.below (below_trans g.st.b hb4) (fun b hl e => ?_) (by have := g.st.b.size; have := hb4.size; omega)
    have := (hrow b e).2.1
    have := g.st.base
    have := h.q
    omega
  have hs4 : W2.heap.size ≤ W4.heap.size := by have := a3.size; have := hb4.size; omega
  have hqo : ov.ownBlock ≠ some q := fun e => by have := (hrow q e).2.1; have := h.q; omega
  refine ⟨v', W4, a1, ⟨?_, ?_, a2, by omega, h.q⟩⟩
  · exact g.st.other hB4 (hk4 q g.st.lt hqo)
  · refine hJ.keep g.j hs4 hB4 fun b hl hq hor => hk4 b hl fun e => ?_
    obtain ⟨h1, h2, h3⟩ := hrow b e
    rcases hor with h4 | h4
    · omega
    · exact hown b h1 h3 h4
def RPost (R : TypeId) (E : World → (Nat → Prop) → α → Array Value → Prop) (t : TypeId) (K : Nat) (w W : World) (q : Nat) (J : List α → World → Value → Prop) (Jx : World → Prop) (n0 : Nat) (r : Option (List α × List UInt8)) (e : Ending) (W' : World) : Prop := match r with
  | some (xs, s) => ∃ v kv', e = .returned v ∧ RInv R E t K w W q J xs W' kv' v s ∧ s.length ≤ n0
  | none => e = .panicked [{ v := .iface 154 (.agg #[]), recovered := false }] ∧ Jx W' ∧ Below w.heap.size w W'
theorem RPost.of_some {Jx : World → Prop} {n0 : Nat} {r : Option (List α × List UInt8)} {xs : List α} {v : Value} {W' : World} (h : r = some (xs, s)) (g : RInv R E t K w W q J xs W' kv' v s) (hs : s.length ≤ n0) : RPost R E t K w W q J Jx n0 r (.returned v) W' := by
  subst h; exact ⟨v, kv', rfl, g, hs⟩
theorem RPost.of_none {Jx : World → Prop} {n0 : Nat} {r : Option (List α × List UInt8)} {W' : World} (h : r = none) (g : Jx W' ∧ Below w.heap.size w W') : RPost R E t K w W q J Jx n0 r given W' := by
  subst h; exact ⟨rfl, g⟩
theorem RPost.cases {Jx : World → Prop} {n0 : Nat} {r : Option (List α × List UInt8)} {e : Ending} {W' : World} (h : RPost R E t K w W q J Jx n0 r e W') : (r = none ∧ e = given ∧ Jx W' ∧ Below w.heap.size w W') ∨ ∃ xs s v kv', r = some (xs, s) ∧ e = .returned v ∧ RInv R E t K w W q J xs W' kv' v s ∧ s.length ≤ n0 := by
  cases r with
  | none => exact .inl ⟨rfl, h⟩
  | some p =>
    obtain ⟨xs, s⟩ := p
    obtain ⟨v, kv', h1, h2, h3⟩ := h
    exact .inr ⟨xs, s, v, kv', rfl, h1, h2, h3⟩
end
end Go.Proofs.YthdfedfholmbmaaGreatDoor

namespace Go.Proofs.YthdfedfholmbmaaGreatDoor
open Go.RowKit
theorem vowns_of {α : Type} (f : α → V) {w : World} {P : Nat → Prop} : ∀ (l : List α) (xs : List (Array Value)), GOwns (fun w P a x => VOwn w P (f a) x) w P l xs → VOwns w P (l.map f) xs
  | [], xs, h => by
    have := h.1
    have e : xs = [] := List.eq_nil_of_length_eq_zero (by simpa using this)
    subst e
    rw [List.map_nil, VOwns]
  | a :: l, xs, h => by
    cases xs with
    | nil => have := h.1; simp at this
    | cons x q =>
      obtain ⟨y, h1, h2⟩ := h.2 0 a rfl
      cases h1
      rw [List.map_cons, VOwns]
      refine ⟨x, q, rfl, h2, vowns_of f l q ⟨by have := h.1; simpa using this, fun j v hv => ?_⟩⟩
      have := h.2 (j + 1) v (by simpa using hv)
      simpa using this
theorem GOwn.low {α : Type} {f : α → V} {w : World} {P : Nat → Prop} {v : Value} {l : List α} (h : GOwn (fun w P a x => VOwn w P (f a) x) 48 6 w P v l) : LOwn w P v (l.map f) := by
  obtain ⟨xs, h1, h2⟩ := h
  exact ⟨xs, by rw [List.length_map]; exact h1, vowns_of f l xs h2⟩
theorem el_pair : EL (fun w P (p : List UInt8 × V) x => VOwn w P p.2 x) 6 := ⟨fun h => VOwn.keep h, fun h => VOwn.imp h, VOwn.size6, VOwn.ones⟩
abbrev innerV (b : Nat) : Value := .func (.func 122) #[] #[.pointer (some ⟨b, 0, none⟩), .pointer (some ⟨b + 1, 0, none⟩)]
abbrev zeroC : Array Value := #[.int .i64 0, .bool false, .int .i64 0, .string ⟨#[]⟩, .slice none 0 0, .slice none 0 0]
structure VS (W : World) (q : Nat) (d : Int) (B : Nat) (cs : Array Value) (W' : World) : Prop where
  p2 : W'.heap[W.heap.size]? = some (.cells #[.pointer (some ⟨q, 0, none⟩)] 95 (0, 0))
  p3 : W'.heap[W.heap.size + 1]? = some (.cells #[.int .i64 d] 3 (0, 0))
  p4 : W'.heap[W.heap.size + 2]? = some (.cells zeroC 48 (0, 0))
  p5 : W'.heap[B]? = some (.cells cs 48 (0, 0))
  p6 : W'.heap[B + 1]? = some (.cells #[innerV W.heap.size] 170 (0, 0))
  lo : W.heap.size + 3 ≤ B
  ql : q < W.heap.size
  tr : RTo q W W'
section
variable {w W W' W'' : World} {q B : Nat} {d : Int} {cs : Array Value} {l' : List UInt8}
theorem VS.lt (h : VS W q d B cs W') : B + 1 < W'.heap.size := (Array.getElem?_eq_some_iff.1 h.p6).1
theorem VS.keep (h : VS W q d B cs W') (hs : W'.heap.size ≤ W''.heap.size) (hk : ∀ b, b < W.heap.size ∨ b = W.heap.size ∨ b = W.heap.size + 1 ∨ b = W.heap.size + 2 ∨ b = B ∨ b = B + 1 → b ≠ q → W''.heap[b]? = W'.heap[b]?) : VS W q d B cs W'' := by
  have hq := h.ql
  have hlo := h.lo
  exact ⟨(hk _ (by omega) (by omega)).trans h.p2, (hk _ (by omega) (by omega)).trans h.p3, (hk _ (by omega) (by omega)).trans h.p4, (hk _ (by omega) (by omega)).trans h.p5, (hk _ (by omega) (by omega)).trans h.p6, h.lo, h.ql,
    ⟨by have := h.tr.size; omega, fun b hb hqb => (hk b (.inl hb) hqb).trans (h.tr.keep b hb hqb)⟩⟩
theorem VS.step (h : VS W q d B cs W') (t : RTo q W' W'') : VS W q d B cs W'' :=
  h.keep t.size fun b hb hq => t.keep b (by have := h.lt; have := h.tr.size; have := h.lo; omega) hq
theorem VS.set (h : VS W q d B cs W') (k : Nat) (u : Value) : VS W q d B (cs.setIfInBounds k u) (W'.setCell ⟨B, k, none⟩ u) := by
  have hs : ∀ b, b ≠ B → (W'.setCell ⟨B, k, none⟩ u).heap[b]? = W'.heap[b]? := fun b hb => Below.heap_setCell _ _ _ _ hb
  have hlo := h.lo
  exact ⟨(hs _ (by omega)).trans h.p2, (hs _ (by omega)).trans h.p3, (hs _ (by omega)).trans h.p4, box_set u h.p5, (hs _ (by omega)).trans h.p6, h.lo, h.ql,
    ⟨by have := h.tr.size; simp [World.setCell]; omega, fun b hb hqb => (hs b (by omega)).trans (h.tr.keep b hb hqb)⟩⟩
theorem VS.setR (h : VS W q d B cs W') (g : RSt 141 w W' q l') (k : Nat) (u : Value) : RSt 141 w (W'.setCell ⟨B, k, none⟩ u) q l' := by
  have hlo := h.lo
  have hq := h.ql
  exact g.other (belowSet g.b (by have := g.base; omega) u) (Below.heap_setCell _ _ _ _ (by show q ≠ B; omega))
theorem VS.fin (h : VS W q d B cs W') (hs : cs.size = 6) (h1 : ∀ u ∈ cs.toList, u.oneCell' = true) (g : RSt 141 w W' q l') :
    (loadVar 48 ⟨B, 0, none⟩).run Tryz.prog W' = .ok (.agg cs) W' ∧ (storeVar 48 ⟨W.heap.size + 2, 0, none⟩ (.agg cs)).run Tryz.prog W' = .ok () (W'.setRow (W.heap.size + 2) cs) ∧
    (loadVar 48 ⟨W.heap.size + 2, 0, none⟩).run Tryz.prog (W'.setRow (W.heap.size + 2) cs) = .ok (.agg cs) (W'.setRow (W.heap.size + 2) cs) ∧ RSt 141 w (W'.setRow (W.heap.size + 2) cs) q l' ∧ RTo q W (W'.setRow (W.heap.size + 2) cs) ∧ Below w.heap.size w (W'.setRow (W.heap.size + 2) cs) ∧
    (∀ (P : Nat → Prop) (v : V), (∀ b, P b → W.heap.size + 3 ≤ b) → VOwn W' P v cs → VOwn (W'.setRow (W.heap.size + 2) cs) (fun b => W.heap.size ≤ b) v cs) := by
  have ho : ∀ b, b ≠ W.heap.size + 2 → (W'.setRow (W.heap.size + 2) cs).heap[b]? = W'.heap[b]? := fun b hb => setRow_other W' _ b cs hb
  have hsz : (W'.setRow (W.heap.size + 2) cs).heap.size = W'.heap.size := by simp
  have hq := h.ql
  have hbase := g.base
  have hB : Below w.heap.size w (W'.setRow (W.heap.size + 2) cs) := by
    have hgs := g.b.size
    obtain ⟨b1, b2, b3, b4, b5⟩ := g.b
    exact ⟨b1, b2, b3, by rw [hsz]; exact hgs, fun b hb => (ho b (by omega)).trans (b5 b hb)⟩
  refine ⟨StT.get st_val hs h.p5, StT.put st_val hs h1 h.p4 rfl, StT.get st_val hs (setRow_heap W' _ zeroC cs _ _ h.p4), g.other hB (ho q (by omega)), ⟨by rw [hsz]; exact h.tr.size, fun b hb hqb => (ho b (by omega)).trans (h.tr.keep b hb hqb)⟩, hB, fun P v hP hv => ?_⟩
  exact (hv.keep (w' := W'.setRow (W.heap.size + 2) cs) fun b hb _ => ho b (by have := hP b hb; omega)).imp fun b _ hb => by have := hP b hb; omega
end
theorem put_i64 {w : World} {ad : Addr} {n : Int} {u : Value} (hc : w.cell? ad = some u) (hf : w.frozen? ad = false) : (storeVar 2 ad (.int .i64 n)).run Tryz.prog w = .ok () (w.setCell ad (.int .i64 n)) := by
  simp [storeVar, go_sem, hc, hf]
theorem put_boo {w : World} {ad : Addr} {n : Bool} {u : Value} (hc : w.cell? ad = some u) (hf : w.frozen? ad = false) : (storeVar 4 ad (.bool n)).run Tryz.prog w = .ok () (w.setCell ad (.bool n)) := by
  simp [storeVar, go_sem, hc, hf]
theorem put_str {w : World} {ad : Addr} {s : ByteArray} {u : Value} (hc : w.cell? ad = some u) (hf : w.frozen? ad = false) : (storeVar 9 ad (.string s)).run Tryz.prog w = .ok () (w.setCell ad (.string s)) := by
  simp [storeVar, go_sem, hc, hf]
theorem put_vas {w : World} {ad : Addr} {p : Option Addr} {n c : Nat} {u : Value} (hc : w.cell? ad = some u) (hf : w.frozen? ad = false) : (storeVar 46 ad (.slice p n c)).run Tryz.prog w = .ok () (w.setCell ad (.slice p n c)) := by
  simp [storeVar, go_sem, hc, hf]
theorem put_strs {w : World} {ad : Addr} {p : Option Addr} {n c : Nat} {u : Value} (hc : w.cell? ad = some u) (hf : w.frozen? ad = false) : (storeVar 45 ad (.slice p n c)).run Tryz.prog w = .ok () (w.setCell ad (.slice p n c)) := by
  simp [storeVar, go_sem, hc, hf]
theorem rdVal_cons {d : Nat} {l : List UInt8} (h : 0 < l.length) : rdVal (d + 1) l =
    if (l[0]).toNat = 0 then some (.mk 0 false 0 [] [] [], l.drop 1)
    else if (l[0]).toNat = 1 then rdBool (l.drop 1)
    else if (l[0]).toNat = 2 then (rdN 0 0 (l.drop 1)).map fun p => (.mk 2 false (unzz p.1) [] [] [], p.2)
    else if (l[0]).toNat = 3 then (rdText (l.drop 1)).map fun p => (.mk 3 false 0 p.1 [] [], p.2)
    else if (l[0]).toNat = 4 then (rdRows (rdVal d) (l.drop 1)).map fun p => (.mk 4 false 0 [] [] p.1, p.2)
    else if (l[0]).toNat = 5 then (rdRows (Dec.seq rdText (rdVal d)) (l.drop 1)).map fun p => (.mk 5 false 0 [] (p.1.map Prod.fst) (p.1.map Prod.snd), p.2)
    else if (l[0]).toNat = 6 ∨ (l[0]).toNat = 7 then (rdN 0 0 (l.drop 1)).map fun p => (.mk ((l[0]).toNat : Int) false (toI p.1) [] [] [], p.2)
    else none := by
  cases l with
  | nil => simp at h
  | cons c r => rw [rdVal]; rfl
theorem rdVal_nil (d : Nat) : rdVal d [] = none := by cases d <;> rw [rdVal]
end Go.Proofs.YthdfedfholmbmaaGreatDoor

namespace Go.Proofs.YthdfedfholmbmaaGreatDoor
open Go.RowKit
theorem rrowsV_any {α : Type} {E : World → (Nat → Prop) → α → Array Value → Prop} (hE : EL E 6) (d : Dec α) {w W : World} {q : Nat} {l : List UInt8} {kv0 : Value} {a1 a2 : Option Addr} (hl : l.length ≤ 1000000)
    (h : RSt 141 w W q l) (J : List α → World → Value → Prop) (Jx : World → Prop) (hJ : KeepJ w W q J) (hx : ∀ m W' kv, J m W' kv → Jx W') (h0 : J [] W kv0)
    (one : ∀ m W1 kv l', J m W1 kv → W.heap.size ≤ W1.heap.size → RSt 141 w W1 q l' → l'.length ≤ 1000000 → m.length ≤ 1000000 → Calls Tryz.prog 122 #[.pointer a1, .pointer a2] W1 fun e W2 => match d l' with
      | some (x, s) => ∃ cs kv', e = .returned (.agg cs) ∧ ROne 141 E w W q J m W1 kv x s cs kv' W2 ∧ s.length ≤ l'.length
      | none => e = given ∧ Jx W2 ∧ Below w.heap.size w W2) :
    Calls Tryz.prog 124 #[.pointer (some ⟨q, 0, none⟩), .func (.func 122) #[] #[.pointer a1, .pointer a2]] W (RPost 141 E 48 6 w W q J Jx l.length (rdRows d l)) := by
  have hqW := h.lt
  have HN := Lib.hid (rnumber_any h)
  have HO := Lib.hid one
  have HJ := Lib.hid hJ
  have HX := Lib.hid hx
  have H0 := Lib.hid h0
  clear one hJ hx h0 h
  cases hr : rdN 0 0 l with
  | none =>
    rw [hr] at HN
    clear HO
    go_enter Tryz.func124, Tryz.ntmps124
    go_wp2_with (go_at_call 55; refine HN.out.mono ?_; rintro e W1 h1; obtain ⟨t1, hb1, rfl⟩ := h1.none; have H1 := Lib.hid (And.intro t1 hb1); clear h1 t1 hb1)
    exact ⟨rfl, RPost.of_none (rdRows_none hr) ⟨HX.out _ _ _ (HJ.out.keep H0.out H1.out.1.size H1.out.2 (fun b hb hq _ => H1.out.1.keep b hb hq)), H1.out.2⟩⟩
  | some p =>
    obtain ⟨n, r⟩ := p
    rw [hr] at HN
    have hn := rdN_lt hr
    have hrl : r.length ≤ l.length := by
      obtain ⟨h1, _⟩ := rt_num.sound _ _ _ hr
      rw [h1, List.length_append]; omega
    have z1 : (n : Int) < 18446744073709551616 := by omega
    have z2 : (r.length : Int) ≤ 1000000 := by omega
    by_cases hnr : n ≤ r.length
    · have HRO := Lib.hid (rdRows_of (d := d) hr hnr)
      have g1 : (n : Int) ≤ (r.length : Int) := by omega
      go_enter Tryz.func124, Tryz.ntmps124
      go_wp2_with (first
        | (go_at_call 55; refine HN.out.mono ?_; rintro e W1 h1
           (
            obtain ⟨t1, hb1, v1, rfl, rfl, s1⟩ := h1.some
            obtain ⟨p1, c1, hbx, _⟩ := s1.box
            have hcq := cellOf (o := 0) hbx rfl
            have H1 := Lib.hid (And.intro t1 (And.intro hb1 s1))
            clear h1 s1 t1 hb1 hbx))
        | (go_at_call 105; refine (gmust_ok _).mono ?_; rintro e W2 ⟨rfl, rfl⟩))
      go_loopw [6, 21] (fun ov i wr => ∃ (m : List α) (a : Option Addr) (n1 c1 : Nat), m.length ≤ n ∧ i = .int .u64 (m.length : Int) ∧ ov = .slice a n1 c1 ∧ Hid (∃ kv l', RInv 141 E 48 6 w W q J m wr kv (.slice a n1 c1) l' ∧ RepAt d n r m l' ∧ l'.length ≤ r.length)) (fun _ i _ => n - (intOf i).toNat)
      case atStart => exact ⟨[], none, 0, 0, Nat.zero_le _, rfl, rfl, Lib.hid ⟨kv0, r, ⟨H1.out.2.2, HJ.out.keep H0.out H1.out.1.size H1.out.2.1 (fun b hb hq _ => H1.out.1.keep b hb hq), GIn.start, H1.out.1.size, hqW⟩, RepAt.start _ _ _, Nat.le_refl _⟩⟩
      case round =>
        obtain ⟨m, a, n1, c1, hm, rfl, rfl, HI⟩ := hrel
        obtain ⟨kv, l', hinv, hrep, hll⟩ := HI.out
        clear HI H1 HN H0 hcq
        by_cases hlt : m.length < n
        · have g2 : (m.length : Int) < (n : Int) := by omega
          have hone := HO.out m wr kv l' hinv.j hinv.size hinv.st (by omega) (by omega)
          cases hd : d l' with
          | none =>
            rw [hd] at hone
            have hfail := hrep.fail hlt hd
            have HC := Lib.hid hone
            have HFL := Lib.hid (HRO.out.trans hfail)
            clear hone hinv hrep hfail
            go_wp2_with (go_at_call 122; refine HC.out.mono ?_; rintro e W2 ⟨rfl, hg, hbw⟩; have HG := Lib.hid (And.intro hg hbw); clear hg hbw HC)
            exact ⟨rfl, RPost.of_none HFL.out HG.out⟩
          | some p =>
            obtain ⟨x, s⟩ := p
            rw [hd] at hone
            have hstep := hrep.step hlt hd
            have HC := Lib.hid hone
            have HV := Lib.hid (And.intro hinv hstep)
            have hlt1 : m.length + 1 ≤ n := hlt
            have hm1 : m.length ≤ 1000000 := by omega
            clear hone hinv hrep hstep
            go_wp2_with (first
              | (go_at_call 122; refine HC.out.mono ?_; rintro e W2 ⟨cs, kv2, rfl, hone, hsl⟩
                 (
                  have hs := hE.size hone.it
                  have hones := hE.ones hone.it
                  have hbs := run_buildSlice_one (P := Tryz.prog) (w := W2.alloc (.cells cs 48)) (v := .agg cs) Tryz.underlying46 Tryz.sizeOf48 Tryz.zeroValue48 hs (by omega) (by omega)
                  obtain ⟨v4, W4, ha, hinv4⟩ := HV.out.1.step hE gt_val HJ.out hone hm1 46 (below_new (w := W2) (.cells cs 48))
                  obtain ⟨a4, n4, c4, rfl⟩ : ∃ a4 n4 c4, v4 = .slice a4 n4 c4 := by obtain ⟨p, c, e⟩ := hinv4.row.slice; exact ⟨_, _, _, e⟩
                  have HS := Lib.hid (StT.fresh st_val hs hones (W := W2))
                  have HL := Lib.hid (StT.get st_val hs (heap_alloc_new W2 (.cells cs 48)))
                  have HB := Lib.hid hbs
                  have HA := Lib.hid ha
                  have HR := Lib.hid (And.intro hinv4 (show s.length ≤ r.length by omega))
                  clear hs hones hbs ha hinv4
                  clear hone HC))
              | ((with_reducible apply op_store); exact HS.out _ rfl; exact rfl; exact rfl; clear HS)
              | ((with_reducible apply op_load); exact HL.out; exact rfl; clear HL)
              | ((with_reducible apply op_bs1); exact HB.out; exact rfl; clear HB)
              | ((with_reducible apply op_append); exact HA.out; exact rfl; exact rfl))
            go_roundw
            case rel => exact ⟨m ++ [x], a4, n4, c4, by rw [List.length_append]; exact hlt1, by rw [List.length_append]; go_num, rfl, Lib.hid ⟨kv2, s, HR.out.1, HV.out.2, HR.out.2⟩⟩
            case measure => simp [intOf]; omega
        · have hme : m.length = n := by omega
          have g2 : ¬ ((m.length : Int) < (n : Int)) := by omega
          have hdone := hrep.done hme
          have HD := Lib.hid (HRO.out.trans hdone)
          have HF := Lib.hid (And.intro hinv (show l'.length ≤ l.length by omega))
          clear hinv hrep hdone
          go_wp2
          go_ret
          exact RPost.of_some HD.out HF.out.1 HF.out.2
    · have HRO := Lib.hid (rdRows_short (d := d) hr hnr)
      have g1 : ¬ ((n : Int) ≤ (r.length : Int)) := by omega
      clear HO
      go_enter Tryz.func124, Tryz.ntmps124
      go_wp2_with (first
        | (go_at_call 55; refine HN.out.mono ?_; rintro e W1 h1
           (
            obtain ⟨t1, hb1, v1, rfl, rfl, s1⟩ := h1.some
            obtain ⟨p1, c1, hbx, _⟩ := s1.box
            have hcq := cellOf (o := 0) hbx rfl
            have H1 := Lib.hid (And.intro t1 hb1)
            clear h1 s1 t1 hb1 hbx))
        | (go_at_call 105; refine (gmust_bad _).mono ?_; rintro e W2 ⟨rfl, rfl⟩))
      exact ⟨rfl, RPost.of_none HRO.out ⟨HX.out _ _ _ (HJ.out.keep H0.out H1.out.1.size H1.out.2 (fun b hb hq _ => H1.out.1.keep b hb hq)), H1.out.2⟩⟩
theorem rrowsM_any {α : Type} {E : World → (Nat → Prop) → α → Array Value → Prop} (hE : EL E 6) (d : Dec α) {w W : World} {q : Nat} {l : List UInt8} {kv0 : Value} {a1 a2 a3 : Option Addr} (hl : l.length ≤ 1000000)
    (h : RSt 141 w W q l) (J : List α → World → Value → Prop) (Jx : World → Prop) (hJ : KeepJ w W q J) (hx : ∀ m W' kv, J m W' kv → Jx W') (h0 : J [] W kv0)
    (one : ∀ m W1 kv l', J m W1 kv → W.heap.size ≤ W1.heap.size → RSt 141 w W1 q l' → l'.length ≤ 1000000 → m.length ≤ 1000000 → Calls Tryz.prog 125 #[.pointer a1, .pointer a2, .pointer a3] W1 fun e W2 => match d l' with
      | some (x, s) => ∃ cs kv', e = .returned (.agg cs) ∧ ROne 141 E w W q J m W1 kv x s cs kv' W2 ∧ s.length ≤ l'.length
      | none => e = given ∧ Jx W2 ∧ Below w.heap.size w W2) :
    Calls Tryz.prog 124 #[.pointer (some ⟨q, 0, none⟩), .func (.func 125) #[] #[.pointer a1, .pointer a2, .pointer a3]] W (RPost 141 E 48 6 w W q J Jx l.length (rdRows d l)) := by
  have hqW := h.lt
  have HN := Lib.hid (rnumber_any h)
  have HO := Lib.hid one
  have HJ := Lib.hid hJ
  have HX := Lib.hid hx
  have H0 := Lib.hid h0
  clear one hJ hx h0 h
  cases hr : rdN 0 0 l with
  | none =>
    rw [hr] at HN
    clear HO
    go_enter Tryz.func124, Tryz.ntmps124
    go_wp2_with (go_at_call 55; refine HN.out.mono ?_; rintro e W1 h1; obtain ⟨t1, hb1, rfl⟩ := h1.none; have H1 := Lib.hid (And.intro t1 hb1); clear h1 t1 hb1)
    exact ⟨rfl, RPost.of_none (rdRows_none hr) ⟨HX.out _ _ _ (HJ.out.keep H0.out H1.out.1.size H1.out.2 (fun b hb hq _ => H1.out.1.keep b hb hq)), H1.out.2⟩⟩
  | some p =>
    obtain ⟨n, r⟩ := p
    rw [hr] at HN
    have hn := rdN_lt hr
    have hrl : r.length ≤ l.length := by
      obtain ⟨h1, _⟩ := rt_num.sound _ _ _ hr
      rw [h1, List.length_append]; omega
    have z1 : (n : Int) < 18446744073709551616 := by omega
    have z2 : (r.length : Int) ≤ 1000000 := by omega
    by_cases hnr : n ≤ r.length
    · have HRO := Lib.hid (rdRows_of (d := d) hr hnr)
      have g1 : (n : Int) ≤ (r.length : Int) := by omega
      go_enter Tryz.func124, Tryz.ntmps124
      go_wp2_with (first
        | (go_at_call 55; refine HN.out.mono ?_; rintro e W1 h1
           (
            obtain ⟨t1, hb1, v1, rfl, rfl, s1⟩ := h1.some
            obtain ⟨p1, c1, hbx, _⟩ := s1.box
            have hcq := cellOf (o := 0) hbx rfl
            have H1 := Lib.hid (And.intro t1 (And.intro hb1 s1))
            clear h1 s1 t1 hb1 hbx))
        | (go_at_call 105; refine (gmust_ok _).mono ?_; rintro e W2 ⟨rfl, rfl⟩))
      go_loopw [6, 21] (fun ov i wr => ∃ (m : List α) (a : Option Addr) (n1 c1 : Nat), m.length ≤ n ∧ i = .int .u64 (m.length : Int) ∧ ov = .slice a n1 c1 ∧ Hid (∃ kv l', RInv 141 E 48 6 w W q J m wr kv (.slice a n1 c1) l' ∧ RepAt d n r m l' ∧ l'.length ≤ r.length)) (fun _ i _ => n - (intOf i).toNat)
      case atStart => exact ⟨[], none, 0, 0, Nat.zero_le _, rfl, rfl, Lib.hid ⟨kv0, r, ⟨H1.out.2.2, HJ.out.keep H0.out H1.out.1.size H1.out.2.1 (fun b hb hq _ => H1.out.1.keep b hb hq), GIn.start, H1.out.1.size, hqW⟩, RepAt.start _ _ _, Nat.le_refl _⟩⟩
      case round =>
        obtain ⟨m, a, n1, c1, hm, rfl, rfl, HI⟩ := hrel
        obtain ⟨kv, l', hinv, hrep, hll⟩ := HI.out
        clear HI H1 HN H0 hcq
        by_cases hlt : m.length < n
        · have g2 : (m.length : Int) < (n : Int) := by omega
          have hone := HO.out m wr kv l' hinv.j hinv.size hinv.st (by omega) (by omega)
          cases hd : d l' with
          | none =>
            rw [hd] at hone
            have hfail := hrep.fail hlt hd
            have HC := Lib.hid hone
            have HFL := Lib.hid (HRO.out.trans hfail)
            clear hone hinv hrep hfail
            go_wp2_with (go_at_call 125; refine HC.out.mono ?_; rintro e W2 ⟨rfl, hg, hbw⟩; have HG := Lib.hid (And.intro hg hbw); clear hg hbw HC)
            exact ⟨rfl, RPost.of_none HFL.out HG.out⟩
          | some p =>
            obtain ⟨x, s⟩ := p
            rw [hd] at hone
            have hstep := hrep.step hlt hd
            have HC := Lib.hid hone
            have HV := Lib.hid (And.intro hinv hstep)
            have hlt1 : m.length + 1 ≤ n := hlt
            have hm1 : m.length ≤ 1000000 := by omega
            clear hone hinv hrep hstep
            go_wp2_with (first
              | (go_at_call 125; refine HC.out.mono ?_; rintro e W2 ⟨cs, kv2, rfl, hone, hsl⟩
                 (
                  have hs := hE.size hone.it
                  have hones := hE.ones hone.it
                  have hbs := run_buildSlice_one (P := Tryz.prog) (w := W2.alloc (.cells cs 48)) (v := .agg cs) Tryz.underlying46 Tryz.sizeOf48 Tryz.zeroValue48 hs (by omega) (by omega)
                  obtain ⟨v4, W4, ha, hinv4⟩ := HV.out.1.step hE gt_val HJ.out hone hm1 46 (below_new (w := W2) (.cells cs 48))
                  obtain ⟨a4, n4, c4, rfl⟩ : ∃ a4 n4 c4, v4 = .slice a4 n4 c4 := by obtain ⟨p, c, e⟩ := hinv4.row.slice; exact ⟨_, _, _, e⟩
                  have HS := Lib.hid (StT.fresh st_val hs hones (W := W2))
                  have HL := Lib.hid (StT.get st_val hs (heap_alloc_new W2 (.cells cs 48)))
                  have HB := Lib.hid hbs
                  have HA := Lib.hid ha
                  have HR := Lib.hid (And.intro hinv4 (show s.length ≤ r.length by omega))
                  clear hs hones hbs ha hinv4
                  clear hone HC))
              | ((with_reducible apply op_store); exact HS.out _ rfl; exact rfl; exact rfl; clear HS)
              | ((with_reducible apply op_load); exact HL.out; exact rfl; clear HL)
              | ((with_reducible apply op_bs1); exact HB.out; exact rfl; clear HB)
              | ((with_reducible apply op_append); exact HA.out; exact rfl; exact rfl))
            go_roundw
            case rel => exact ⟨m ++ [x], a4, n4, c4, by rw [List.length_append]; exact hlt1, by rw [List.length_append]; go_num, rfl, Lib.hid ⟨kv2, s, HR.out.1, HV.out.2, HR.out.2⟩⟩
            case measure => simp [intOf]; omega
        · have hme : m.length = n := by omega
          have g2 : ¬ ((m.length : Int) < (n : Int)) := by omega
          have hdone := hrep.done hme
          have HD := Lib.hid (HRO.out.trans hdone)
          have HF := Lib.hid (And.intro hinv (show l'.length ≤ l.length by omega))
          clear hinv hrep hdone
          go_wp2
          go_ret
          exact RPost.of_some HD.out HF.out.1 HF.out.2
    · have HRO := Lib.hid (rdRows_short (d := d) hr hnr)
      have g1 : ¬ ((n : Int) ≤ (r.length : Int)) := by omega
      clear HO
      go_enter Tryz.func124, Tryz.ntmps124
      go_wp2_with (first
        | (go_at_call 55; refine HN.out.mono ?_; rintro e W1 h1
           (
            obtain ⟨t1, hb1, v1, rfl, rfl, s1⟩ := h1.some
            obtain ⟨p1, c1, hbx, _⟩ := s1.box
            have hcq := cellOf (o := 0) hbx rfl
            have H1 := Lib.hid (And.intro t1 hb1)
            clear h1 s1 t1 hb1 hbx))
        | (go_at_call 105; refine (gmust_bad _).mono ?_; rintro e W2 ⟨rfl, rfl⟩))
      exact ⟨rfl, RPost.of_none HRO.out ⟨HX.out _ _ _ (HJ.out.keep H0.out H1.out.1.size H1.out.2 (fun b hb hq _ => H1.out.1.keep b hb hq)), H1.out.2⟩⟩
end Go.Proofs.YthdfedfholmbmaaGreatDoor

namespace Go.Proofs.YthdfedfholmbmaaGreatDoor
open Go.RowKit
theorem sub_rdB {W : World} {a : Option Addr} {n c : Nat} {l : List UInt8} (h : RdB W (.slice a n c) l) (lo hi : Option Int) (l0 h0 : Nat)
    (hlo : ∀ i, lo = some i → i = (l0 : Int)) (hlo' : lo = none → l0 = 0) (hhi : ∀ i, hi = some i → i = (h0 : Int)) (hhi' : hi = none → h0 = n) (h1 : l0 ≤ h0) (h2 : h0 ≤ n) :
    ∃ a', (∀ W', (Instr.sliceAt 26 (.slice a n c) (lo.map (.int .i64)) (hi.map (.int .i64)) none).run Tryz.prog W' = .ok (.slice a' (h0 - l0) (c - l0)) W') ∧
      RdB W (.slice a' (h0 - l0) (c - l0)) ((l.drop l0).take (h0 - l0)) ∧ (∀ g, (Value.slice a' (h0 - l0) (c - l0)).ownBlock = some g → (Value.slice a n c).ownBlock = some g) := by
  obtain ⟨a1, cap, heq, ⟨hn, hm, hz⟩, hcell⟩ := h
  cases heq
  have hlen : ((l.drop l0).take (h0 - l0)).length = h0 - l0 := by rw [List.length_take, List.length_drop]; omega
  refine ⟨_, fun W' => by rw [run_sliceAt_gen Tryz.underlying26]; exact run_slice_gen (P := Tryz.prog) Tryz.underlying26 Tryz.sizeOf5 a _ c lo hi l0 h0 hlo hlo' hhi hhi' h1 (by omega) W', ?_, ?_⟩
  · refine ⟨_, _, by rw [hlen], ⟨by omega, by omega, fun e => ?_⟩, fun ad had => ?_⟩
    · split at e
      · omega
      · cases a with
        | none => have := hz rfl; omega
        | some ad => cases e
    · split at had
      · rename_i hc
        subst had
        obtain ⟨hs, hcl⟩ := hcell ad rfl
        refine ⟨fun hne => hs fun e => hne (by rw [e]; simp), fun i b hi => ?_⟩
        have : i < h0 - l0 := by
          have := (List.getElem?_eq_some_iff.1 hi).1; omega
        omega
      · cases a with
        | none => cases had
        | some ad0 =>
          obtain ⟨hs, hcl⟩ := hcell ad0 rfl
          by_cases hl0 : l = []
          · subst hl0
            exact ⟨fun h => absurd (by simp) h, fun i b hi => (by simp at hi)⟩
          replace hs := hs hl0
          obtain ⟨b0, o0, sp0⟩ := ad0
          simp only at hs; subst hs
          simp only [Option.map_some, addr_add, Option.some.injEq] at had
          subst had
          refine ⟨fun _ => rfl, fun i b hi => ?_⟩
          have hi' : l[l0 + i]? = some b := by
            rw [List.getElem?_take] at hi
            split at hi
            · rwa [List.getElem?_drop] at hi
            · cases hi
          have := hcl (l0 + i) b hi'
          simpa [Nat.add_assoc] using this
  · intro g hg
    cases a with
    | none => split at hg <;> cases hg
    | some ad0 =>
      split at hg
      · exact hg
      · obtain ⟨b0, o0, sp0⟩ := ad0
        have e : ∀ (A : Addr) k, (A.add k).block = A.block := fun A k => by unfold Addr.add; split <;> rfl
        rw [← hg]; exact congrArg some (e _ _).symm
theorem bound_u {n y : Nat} (h : n ≤ y) (code : BoundsCode) : Instr.sliceBound (.int .u64 (n : Int)) y code = Instr.sliceBound (.int .i64 (n : Int)) y code := by
  unfold Instr.sliceBound
  simp [asIntOf, h]
theorem slice_hi (a : Option Addr) (len cap n : Nat) (h : n ≤ cap) (W : World) : (Instr.slice 26 (.slice a len cap) none (some (.int .u64 (n : Int))) none).run Tryz.prog W = (Instr.slice 26 (.slice a len cap) none (some (.int .i64 (n : Int))) none).run Tryz.prog W := by
  have e := fun code => bound_u h code
  have hb : Instr.sliceBounds true len cap none (some (.int .u64 (n : Int))) none = Instr.sliceBounds true len cap none (some (.int .i64 (n : Int))) none := by simp only [Instr.sliceBounds, pure_bind, e]
  simp only [Instr.slice, Sem.run_bind, run_underlying Tryz.underlying26, Result.andThen_ok, hb]
theorem slice_lo (a : Option Addr) (len cap n : Nat) (h : n ≤ len) (W : World) : (Instr.slice 26 (.slice a len cap) (some (.int .u64 (n : Int))) none none).run Tryz.prog W = (Instr.slice 26 (.slice a len cap) (some (.int .i64 (n : Int))) none none).run Tryz.prog W := by
  have e := fun code => bound_u h code
  have hb : Instr.sliceBounds true len cap (some (.int .u64 (n : Int))) none none = Instr.sliceBounds true len cap (some (.int .i64 (n : Int))) none none := by simp only [Instr.sliceBounds, pure_bind, e]
  simp only [Instr.slice, Sem.run_bind, run_underlying Tryz.underlying26, Result.andThen_ok, hb]
theorem foldl_push8 (l : List UInt8) : ∀ s : ByteArray, (l.map fun b => ((b.toNat : Int))).foldl (fun r n => r.push (UInt8.ofNat n.toNat)) s = ⟨s.data ++ l.toArray⟩ := by
  induction l with
  | nil => intro s; simp
  | cons b l ih =>
    intro s
    simp only [List.map_cons, List.foldl_cons]
    rw [ih]
    congr 1
    simp [ByteArray.push]
theorem bytes_str {w : World} {a : Option Addr} {n c : Nat} {l : List UInt8} (h : RdB w (.slice a n c) l) : (convert 26 9 (.slice a n c)).run Tryz.prog w = .ok (.string (strB l)) w := by
  rw [run_convert_bytes_string w _ _ 5 _ _ _ Tryz.underlying26 Tryz.underlying5 Tryz.underlying9]
  obtain ⟨a', cap, heq, h1, h2⟩ := h
  cases heq
  cases a with
  | none =>
    have hn : l = [] := List.eq_nil_of_length_eq_zero (by have := h1.2.2 rfl; omega)
    subst hn
    rfl
  | some ad =>
    have hcell := RdB.at (w := w) (c := c) ⟨_, _, rfl, h1, h2⟩
    have hl := run_loadCells_list (P := Tryz.prog) w ad ((l.map fun b => ((b.toNat : Int))).map (Value.int .u8)) (fun j v hv => by
      simp only [List.map_map, List.getElem?_map, Option.map_eq_some_iff] at hv
      obtain ⟨x, hx, rfl⟩ := hv
      exact hcell j x hx)
    simp only [List.length_map] at hl
    rw [run_bytesToString w ad l.length c _ hl, foldl_push8]
    simp [strB]
end Go.Proofs.YthdfedfholmbmaaGreatDoor

namespace Go.Proofs.YthdfedfholmbmaaGreatDoor
open Go.RowKit
theorem rd_cap {W : World} {p : Option Addr} {n c : Nat} {l : List UInt8} (h : RdB W (.slice p n c) l) : n ≤ c := by
  obtain ⟨a1, cap, heq, ⟨hn, hm, hz⟩, _⟩ := h
  cases heq; exact hn
theorem rtext_any {w W : World} {q : Nat} {l : List UInt8} (h : RSt 141 w W q l) (hl : l.length ≤ 1000000) :
    Calls Tryz.prog 107 #[.pointer (some ⟨q, 0, none⟩)] W (Reads w W q (rdText l) fun s v _ => v = .string (strB s)) := by
  have HN := Lib.hid (rnumber_any h)
  clear h
  cases hr : rdN 0 0 l with
  | none =>
    rw [hr] at HN
    rw [rdText_none hr]
    go_enter Tryz.func107, Tryz.ntmps107
    go_wp2_with (go_at_call 55; refine HN.out.mono ?_; rintro e W1 h1; obtain ⟨t1, hb1, rfl⟩ := h1.none; have H1 := Lib.hid (And.intro t1 hb1); clear h1 t1 hb1)
    exact ⟨rfl, H1.out.1, H1.out.2, rfl⟩
  | some p =>
    obtain ⟨n, r⟩ := p
    rw [hr] at HN
    have hn := rdN_lt hr
    have hrl : r.length ≤ l.length := by
      obtain ⟨h1, _⟩ := rt_num.sound _ _ _ hr
      rw [h1, List.length_append]; omega
    have z1 : (n : Int) < 18446744073709551616 := by omega
    have z2 : (r.length : Int) ≤ 1000000 := by omega
    by_cases hnr : n ≤ r.length
    · rw [rdText_of hr hnr]
      have g1 : (n : Int) ≤ (r.length : Int) := by omega
      go_enter Tryz.func107, Tryz.ntmps107
      go_wp2_with (first
        | (go_at_call 55; refine HN.out.mono ?_; rintro e W1 h1
           (
            obtain ⟨t1, hb1, v1, rfl, rfl, s1⟩ := h1.some
            obtain ⟨p1, c1, p2, c2, hbx, hrd, hsl, hst, hto⟩ := s1.rest hnr
            obtain ⟨a3, hs3, hrd3, _⟩ := sub_rdB hrd none (some (n : Int)) 0 n (by simp) (by simp) (by simp) (by simp) (Nat.zero_le _) hnr
            simp only [Nat.sub_zero, List.drop_zero, Option.map_none, Option.map_some] at hs3 hrd3
            have hcq := cellOf (o := 0) hbx rfl
            have hcap := rd_cap hrd
            have HS1 := Lib.hid (fun W' => (run_sliceAt_gen Tryz.underlying26 _ _ _ _ W').trans ((slice_hi p1 r.length c1 n (by omega) W').trans ((run_sliceAt_gen Tryz.underlying26 _ _ _ _ W').symm.trans (hs3 W'))))
            have HCV := Lib.hid (bytes_str hrd3)
            have HS2 := Lib.hid (fun W' => (run_sliceAt_gen Tryz.underlying26 _ _ _ _ W').trans ((slice_lo p1 r.length c1 n hnr W').trans (hsl W')))
            have HST := Lib.hid (put_bytesR (p := p2) (n := r.length - n) (c := c2) hcq (freeOf (o := 0) hbx))
            have H1 := Lib.hid (And.intro (t1.trans hto) hst)
            clear h1 s1 t1 hb1 hbx hrd hsl hst hto hs3 hrd3))
        | (go_at_call 105; refine (gmust_ok _).mono ?_; rintro e W2 ⟨rfl, rfl⟩)
        | ((with_reducible apply op_slice); exact HS1.out _; exact rfl; exact rfl; exact rfl; exact rfl)
        | ((with_reducible apply op_conv); exact HCV.out; exact rfl)
        | ((with_reducible apply op_slice); exact HS2.out _; exact rfl; exact rfl; exact rfl; exact rfl)
        | ((with_reducible apply op_store); exact HST.out; exact rfl; exact rfl))
      go_ret
      exact ⟨H1.out.1, H1.out.2.b, _, rfl, rfl, H1.out.2⟩
    · rw [rdText_short hr hnr]
      have g1 : ¬ ((n : Int) ≤ (r.length : Int)) := by omega
      go_enter Tryz.func107, Tryz.ntmps107
      go_wp2_with (first
        | (go_at_call 55; refine HN.out.mono ?_; rintro e W1 h1
           (
            obtain ⟨t1, hb1, v1, rfl, rfl, s1⟩ := h1.some
            obtain ⟨p1, c1, hbx, _⟩ := s1.box
            have hcq := cellOf (o := 0) hbx rfl
            have H1 := Lib.hid (And.intro t1 hb1)
            clear h1 s1 t1 hb1 hbx))
        | (go_at_call 105; refine (gmust_bad _).mono ?_; rintro e W2 ⟨rfl, rfl⟩))
      exact ⟨rfl, H1.out.1, H1.out.2, rfl⟩
end Go.Proofs.YthdfedfholmbmaaGreatDoor

namespace Go.Proofs.YthdfedfholmbmaaGreatDoor
open Go.RowKit
def okVal (W : World) (v : V) (x : Value) (W' : World) : Prop := ∃ cs, x = .agg cs ∧ VOwn W' (fun b => W.heap.size ≤ b) v cs
def RVal (w : World) (d : Nat) : Prop := ∀ (W : World) (q : Nat) (l : List UInt8), RSt 141 w W q l → l.length ≤ 1000000 → Calls Tryz.prog 71 #[.pointer (some ⟨q, 0, none⟩), .int .i64 (d : Int)] W (Reads w W q (rdVal d l) (okVal W))
theorem own_flat (W : World) (P : Nat → Prop) (k : Int) (b : Bool) (n : Int) (t : List UInt8) : VOwn W P (.mk k b n t [] []) #[.int .i64 k, .bool b, .int .i64 n, .string (strB t), .slice none 0 0, .slice none 0 0] :=
  VOwn_iff.2 ⟨_, _, rfl, ⟨⟨by simp, .inl ⟨rfl, rfl⟩⟩, fun g hg => by simp [Value.ownBlock] at hg⟩, [], ⟨⟨by simp, .inl ⟨rfl, rfl⟩⟩, fun g hg => by simp [Value.ownBlock] at hg⟩, by rw [VOwns]⟩
theorem ones6 (k : Int) (b : Bool) (n : Int) (t : ByteArray) {vk vl : Value} (h1 : vk.oneCell' = true) (h2 : vl.oneCell' = true) : ∀ u ∈ (#[.int .i64 k, .bool b, .int .i64 n, .string t, vk, vl] : Array Value).toList, u.oneCell' = true := by
  intro u hu
  simp only [List.mem_cons, List.not_mem_nil, or_false] at hu
  rcases hu with rfl | rfl | rfl | rfl | rfl | rfl <;> first | rfl | assumption
theorem rinner_any {w W0 W : World} {d B : Nat} {cs : Array Value} {q : Nat} {l : List UInt8} (hv : RVal w d) (hd : d ≤ 64) (hs : VS W0 q ((d : Int) + 1) B cs W) (h : RSt 141 w W q l) (hl : l.length ≤ 1000000) :
    Calls Tryz.prog 122 #[.pointer (some ⟨W0.heap.size, 0, none⟩), .pointer (some ⟨W0.heap.size + 1, 0, none⟩)] W (Reads w W q (rdVal d l) (okVal W)) := by
  have zd : (d : Int) ≤ 64 := by omega
  have hb := below_new (w := W) (.cells zeroC 48)
  have hq := h.lt
  have hbase := h.base
  have c2 := belowCell hb (ltOf (cellOf (o := 0) hs.p2 rfl)) (cellOf (o := 0) hs.p2 rfl)
  have c3 := belowCell hb (ltOf (cellOf (o := 0) hs.p3 rfl)) (cellOf (o := 0) hs.p3 rfl)
  have hbx : (W.alloc (.cells zeroC 48)).heap[W.heap.size]? = some (.cells zeroC 48 (0, 0)) := heap_alloc_new W _
  have HC := Lib.hid (hv (W.alloc (.cells zeroC 48)) q l (h.below hb) hl)
  have HB := Lib.hid (And.intro hb (And.intro hbx (And.intro hq hbase)))
  clear hb hbx hs h hv
  unfold zeroC at *
  cases hr : rdVal d l with
  | none =>
    rw [hr] at HC
    go_enter Tryz.func122, Tryz.ntmps122
    go_wp2_with (go_at_call 71; refine HC.out.mono ?_; rintro e W5 h5; obtain ⟨t5, hb5, rfl⟩ := h5.none; have H5 := Lib.hid (And.intro t5 hb5); clear h5 t5 hb5)
    exact ⟨rfl, (RTo.of_below HB.out.1).trans H5.out.1, H5.out.2, rfl⟩
  | some p =>
    obtain ⟨v, s⟩ := p
    rw [hr] at HC
    go_enter Tryz.func122, Tryz.ntmps122
    go_wp2_with (first
      | (go_at_call 71; refine HC.out.mono ?_; rintro e W5 h5
         (
          obtain ⟨t5, hb5, x, rfl, ⟨cs, rfl, hown⟩, hst⟩ := h5.some
          obtain ⟨hb, hbx, hq, hbase⟩ := HB.out
          have hsz := hb.size
          have hlt : W.heap.size < (W.alloc (.cells #[.int .i64 0, .bool false, .int .i64 0, .string ⟨#[]⟩, .slice none 0 0, .slice none 0 0] 48)).heap.size := by simp
          have hbx5 := (t5.keep W.heap.size hlt (by omega)).trans hbx
          have h6 := hown.size6
          have h61 := hown.ones
          have HST := Lib.hid (StT.put st_val h6 h61 hbx5 rfl)
          have HLD := Lib.hid (StT.get st_val h6 (setRow_heap W5 W.heap.size _ cs _ _ hbx5))
          have ho : ∀ b, b ≠ W.heap.size → (W5.setRow W.heap.size cs).heap[b]? = W5.heap[b]? := fun b hb => setRow_other W5 _ b cs hb
          have hsz6 : (W5.setRow W.heap.size cs).heap.size = W5.heap.size := by simp
          have hB6 : Below w.heap.size w (W5.setRow W.heap.size cs) := by
            have hgs := hb5.size
            obtain ⟨b1, b2, b3, b4, b5⟩ := hb5
            exact ⟨b1, b2, b3, by rw [hsz6]; exact hgs, fun b hb => (ho b (by omega)).trans (b5 b hb)⟩
          have HF := Lib.hid (And.intro (hst.other hB6 (ho q (by omega))) (And.intro (show RTo q W (W5.setRow W.heap.size cs) from ⟨by rw [hsz6]; have := t5.size; omega, fun b hb2 hqb => (ho b (by omega)).trans ((t5.keep b (by omega) hqb).trans (hb.block b hb2))⟩)
            ((hown.keep (w' := W5.setRow W.heap.size cs) fun b hb2 _ => ho b (by omega)).imp (P' := fun b => W.heap.size ≤ b) fun b _ hb2 => by omega)))
          clear h5 t5 hb5 hown hst hb hbx hq hbase hsz hlt hbx5 h6 h61 ho hsz6 hB6 HB HC))
      | ((with_reducible apply op_store); exact HST.out; exact rfl; exact rfl))
    refine bodyPost_ret (results_cell_one rfl _ _ ⟨W.heap.size, 0, none⟩ _ rfl HLD.out) rfl ?_
    exact ⟨HF.out.2.1, HF.out.1.b, _, rfl, ⟨cs, rfl, HF.out.2.2⟩, HF.out.1⟩
def MapR (W0 W3 : World) (q d B : Nat) (m : List (List UInt8 × V)) (W' : World) (kv : Value) : Prop :=
  VS W0 q ((d : Int) + 1) B #[.int .i64 5, .bool false, .int .i64 0, .string ⟨#[]⟩, kv, .slice none 0 0] W' ∧ OwnsP W' (fun b => W3.heap.size ≤ b) 9 1 kv m.length (m.map fun p => strV p.1)
theorem MapR.keepJ {w W0 W3 : World} {q d B : Nat} (h : B + 1 < W3.heap.size) (hlo : W0.heap.size + 3 ≤ B) : KeepJ w W3 q (MapR W0 W3 q d B) := by
  refine ⟨?_, ?_⟩
  · rintro m W1 W2 kv ⟨h1, h2⟩ hsz hb hk
    refine ⟨h1.keep hsz fun b hb hq => hk b (by have := h1.lt; omega) hq (.inl (by omega)), ?_⟩
    refine ⟨ownsRow_heap h2.1 fun g hg => ?_, h2.2⟩
    have hlt := (h2.1.lt g hg).2
    have hge := h2.2 g hg
    exact hk g hlt (by have := h1.ql; omega) (.inr hg)
  · rintro m W1 kv ⟨h1, h2⟩ b hb
    exact (h2.1.lt b hb).2
theorem MapR.app {w W0 W3 W2 : World} {q d B : Nat} {m : List (List UInt8 × V)} {kv : Value} {l : List UInt8} (h : MapR W0 W3 q d B m W2 kv) (hB : B + 1 < W3.heap.size) (hst : RSt 141 w W2 q l) (s : List UInt8) (hm : m.length ≤ 1000000) (hs32 : W3.heap.size ≤ W2.heap.size) :
    ∃ pk n ck W4, (Builtin.append_ #[45, 45] 45 #[kv, .slice (some ⟨W2.heap.size, 0, none⟩) 1 1]).run Tryz.prog (W2.alloc (.cells #[.string (strB s)] 9)) = .ok (.slice pk n ck) W4 ∧
      (storeVar 45 ⟨B, 4, none⟩ (.slice pk n ck)).run Tryz.prog W4 = .ok () (W4.setCell ⟨B, 4, none⟩ (.slice pk n ck)) ∧
      VS W0 q ((d : Int) + 1) B #[.int .i64 5, .bool false, .int .i64 0, .string ⟨#[]⟩, .slice pk n ck, .slice none 0 0] (W4.setCell ⟨B, 4, none⟩ (.slice pk n ck)) ∧
      OwnsP (W4.setCell ⟨B, 4, none⟩ (.slice pk n ck)) (fun b => W3.heap.size ≤ b) 9 1 (.slice pk n ck) (m.length + 1) ((m.map fun p => strV p.1) ++ [strV s]) ∧
      RSt 141 w (W4.setCell ⟨B, 4, none⟩ (.slice pk n ck)) q l ∧ (∀ b, b < W2.heap.size → b ≠ B → kv.ownBlock ≠ some b → (W4.setCell ⟨B, 4, none⟩ (.slice pk n ck)).heap[b]? = W2.heap[b]?) ∧
      ((Value.slice pk n ck).ownBlock = kv.ownBlock ∨ (Value.slice pk n ck).ownBlock = some (W2.heap.size + 1)) ∧ W2.heap.size + 1 ≤ (W4.setCell ⟨B, 4, none⟩ (.slice pk n ck)).heap.size := by
  obtain ⟨hv, ho⟩ := h
  have hlo := hv.lo
  have hql := hv.ql
  have hbase := hst.base
  have hlt2 := hv.lt
  have hblk := fun g hg => ho.2 g hg
  have hb := below_new (w := W2) (.cells #[.string (strB s)] 9)
  have ho1 : (W2.alloc (.cells #[.string (strB s)] 9)).ownsRow 0 9 1 kv m.length (m.map fun p => strV p.1) := (ho.keep (w' := W2.alloc (.cells #[.string (strB s)] 9)) fun b _ hl => hb.block b hl).1
  obtain ⟨v', W4, a1, a2, a3, a4, a5⟩ := gt_str.app ho1 (g := W2.heap.size) (x := #[.string (strB s)]) rfl (fun u hu => by simp only [List.mem_cons, List.not_mem_nil, or_false] at hu; subst hu; rfl) (heap_alloc_new W2 _) hm 45
  have hs1 : (W2.alloc (.cells #[.string (strB s)] 9)).heap.size = W2.heap.size + 1 := by simp
  have hnB : kv.ownBlock ≠ some B := fun e => by have := hblk B e; omega
  have hk4 : ∀ b, b < W2.heap.size → kv.ownBlock ≠ some b → W4.heap[b]? = W2.heap[b]? := fun b hl hn => (a3.block b (by omega) hn).trans (hb.block b hl)
  have hv4 : VS W0 q ((d : Int) + 1) B #[.int .i64 5, .bool false, .int .i64 0, .string ⟨#[]⟩, kv, .slice none 0 0] W4 := hv.keep (by omega) fun b hb1 hq => hk4 b (by have := hv.tr.size; omega) fun e => by have := hblk b e; omega
  have hB4 : Below w.heap.size w W4 := a3.below (below_trans hst.b hb) (fun b hl e => by have := hblk b e; omega) (by have := hst.b.size; omega)
  have hst4 : RSt 141 w W4 q l := hst.other hB4 (hk4 q hst.lt fun e => by have := hblk q e; omega)
  have how : OwnsP W4 (fun b => W3.heap.size ≤ b) 9 1 v' (m.length + 1) ((m.map fun p => strV p.1) ++ [strV s]) := ⟨by simpa [strV] using a2, fun g hg => by
    rcases a4 with e | e
    · exact hblk g (e.symm.trans hg)
    · rw [e] at hg; cases hg; omega⟩
  obtain ⟨pk, n, ck, rfl⟩ : ∃ pk n ck, v' = .slice pk n ck := by
    rcases how.1.2 with ⟨h, _⟩ | ⟨g, cap, cur, h, _⟩ <;> exact ⟨_, _, _, h⟩
  have hnew : (Value.slice pk n ck).ownBlock ≠ some B := fun e => by have := how.2 B e; omega
  have hsc : ∀ b, b ≠ B → (W4.setCell ⟨B, 4, none⟩ (.slice pk n ck)).heap[b]? = W4.heap[b]? := fun b hb => Below.heap_setCell _ _ _ _ hb
  refine ⟨pk, n, ck, W4, a1, put_strs (cellOf (o := 4) hv4.p5 rfl) (freeOf (o := 4) hv4.p5), by simpa using hv4.set 4 (.slice pk n ck), ⟨ownsRow_heap how.1 fun g hg => hsc g fun e => hnew (e ▸ hg), how.2⟩, hv4.setR hst4 4 _, fun b hl hne hn => (hsc b hne).trans (hk4 b hl hn), ?_, ?_⟩
  · rcases a4 with e | e
    · exact .inl e
    · exact .inr (by rw [e, hs1])
  · simp only [World.setCell, Array.size_modify] at *
    omega
theorem rkv_any {w W0 W3 W1 : World} {q d B : Nat} {m : List (List UInt8 × V)} {kv : Value} {l : List UInt8} (hv : RVal w d) (hd : d ≤ 64) (hB : B + 1 < W3.heap.size) (hj : MapR W0 W3 q d B m W1 kv) (hsz : W3.heap.size ≤ W1.heap.size) (h : RSt 141 w W1 q l) (hl : l.length ≤ 1000000) (hm : m.length ≤ 1000000) :
    Calls Tryz.prog 125 #[.pointer (some ⟨W0.heap.size, 0, none⟩), .pointer (some ⟨B, 0, none⟩), .pointer (some ⟨B + 1, 0, none⟩)] W1 fun e W2 => match (Dec.seq rdText (rdVal d)) l with
      | some (x, s) => ∃ cs kv', e = .returned (.agg cs) ∧ ROne 141 (fun w P (p : List UInt8 × V) x => VOwn w P p.2 x) w W3 q (MapR W0 W3 q d B) m W1 kv x s cs kv' W2 ∧ s.length ≤ l.length
      | none => e = given ∧ RTo q W0 W2 ∧ Below w.heap.size w W2 := by
  have zd : (d : Int) ≤ 64 := by omega
  have hql := hj.1.ql
  have hlo := hj.1.lo
  have htr := hj.1.tr
  have hb := below_new (w := W1) (.cells zeroC 48)
  have hja := (MapR.keepJ (w := w) hB hlo).keep hj hb.size (below_trans h.b hb) (fun b hb1 _ _ => hb.block b hb1)
  have hsa := h.below hb
  have hbx : (W1.alloc (.cells zeroC 48)).heap[W1.heap.size]? = some (.cells zeroC 48 (0, 0)) := heap_alloc_new W1 _
  have c2 := cellOf (o := 0) hja.1.p2 rfl
  have HT := Lib.hid (rtext_any hsa hl)
  have HB := Lib.hid (And.intro hb (And.intro hbx (And.intro hja hsa)))
  clear hb hbx hja hsa
  unfold zeroC at *
  cases hr : rdText l with
  | none =>
    rw [hr] at HT
    have hdec : (Dec.seq rdText (rdVal d)) l = none := by unfold Dec.seq; rw [hr]
    rw [hdec]
    go_enter Tryz.func125, Tryz.ntmps125
    go_wp2_with (go_at_call 107; refine HT.out.mono ?_; rintro e W5 h5; obtain ⟨t5, hb5, rfl⟩ := h5.none; have H5 := Lib.hid (And.intro t5 hb5); clear h5 t5 hb5)
    exact ⟨rfl, rfl, (htr.trans (RTo.of_below HB.out.1)).trans H5.out.1, H5.out.2⟩
  | some p =>
    obtain ⟨s0, r⟩ := p
    rw [hr] at HT
    have hrl : r.length ≤ l.length := by
      obtain ⟨e1, _⟩ := rt_text.sound _ _ _ hr
      rw [e1, List.length_append]; omega
    have HV := Lib.hid hv
    have HJ1 := Lib.hid hj
    obtain ⟨pk0, n0, ck0, hkv⟩ : ∃ pk n ck, kv = .slice pk n ck := by
      rcases hj.2.1.2 with ⟨h, _⟩ | ⟨g, cap, cur, h, _⟩ <;> exact ⟨_, _, _, h⟩
    subst hkv
    cases hr2 : rdVal d r with
    | none =>
      have hdec : (Dec.seq rdText (rdVal d)) l = none := by unfold Dec.seq; rw [hr]; simp only; rw [hr2]
      rw [hdec]
      clear hv hj h
      go_enter Tryz.func125, Tryz.ntmps125
      go_wp2_with (first
        | (go_at_call 107; refine HT.out.mono ?_; rintro e W5 h5
           (
            obtain ⟨t5, hb5, x5, rfl, rfl, hst⟩ := h5.some
            obtain ⟨hb, hbx, hja, hsa⟩ := HB.out
            have hj5 := (MapR.keepJ (w := w) hB hlo).keep hja t5.size hb5 (fun b hb1 hq1 _ => t5.keep b hb1 hq1)
            obtain ⟨pk1, n1, ck1, W4, happ, hst1, hv6, how6, hst6, hk6, hown6, hsz6⟩ := hj5.app hB hst s0 hm (by have := t5.size; have := hb.size; omega)
            have HK := Lib.hid (run_load1 (P := Tryz.prog) (w := W5) Tryz.underlying45 rfl (cellOf (o := 4) hj5.1.p5 rfl))
            have HBS := Lib.hid (run_buildSlice_one (P := Tryz.prog) (w := W5) (v := .string (strB s0)) Tryz.underlying45 Tryz.sizeOf9 Tryz.zeroValue9 rfl (by omega) (by omega))
            have HA := Lib.hid happ
            have HS1 := Lib.hid hst1
            have HIN := Lib.hid (run_load1 (P := Tryz.prog) (w := W4.setCell ⟨B, 4, none⟩ (.slice pk1 n1 ck1)) Tryz.underlying170 rfl (cellOf (o := 0) hv6.p6 rfl))
            have HC := Lib.hid (rinner_any HV.out hd hv6 hst6 (by omega))
            rw [hr2] at HC
            have HF := Lib.hid (And.intro hv6.tr hst6)
            clear h5 t5 hb5 hst hj5 happ hst1 hv6 how6 hst6 hk6 hown6 hsz6))
        | ((with_reducible apply op_load); exact HK.out; exact rfl; clear HK)
        | ((with_reducible apply op_bs1); exact HBS.out; exact rfl; clear HBS)
        | ((with_reducible apply op_append); exact HA.out; exact rfl; exact rfl)
        | ((with_reducible apply op_store); exact HS1.out; exact rfl; exact rfl; clear HS1)
        | ((with_reducible apply op_load); exact HIN.out; exact rfl; clear HIN)
        | (go_at_call 122; refine HC.out.mono ?_; rintro e W7 h7; obtain ⟨t7, hb7, rfl⟩ := h7.none; have H7 := Lib.hid (And.intro t7 hb7); clear h7 t7 hb7))
      exact ⟨rfl, rfl, HF.out.1.trans H7.out.1, H7.out.2⟩
    | some p2 =>
      obtain ⟨v, s⟩ := p2
      have hdec : (Dec.seq rdText (rdVal d)) l = some ((s0, v), s) := by unfold Dec.seq; rw [hr]; simp only; rw [hr2]
      have hsr : s.length ≤ l.length := by
        obtain ⟨e1, _⟩ := (rt_val d).sound _ _ _ hr2
        have := congrArg List.length e1
        rw [List.length_append] at this
        omega
      rw [hdec]
      clear hv hj h
      go_enter Tryz.func125, Tryz.ntmps125
      go_wp2_with (first
        | (go_at_call 107; refine HT.out.mono ?_; rintro e W5 h5
           (
            obtain ⟨t5, hb5, x5, rfl, rfl, hst⟩ := h5.some
            obtain ⟨hb, hbx, hja, hsa⟩ := HB.out
            have hj5 := (MapR.keepJ (w := w) hB hlo).keep hja t5.size hb5 (fun b hb1 hq1 _ => t5.keep b hb1 hq1)
            obtain ⟨pk1, n1, ck1, W4, happ, hst1, hv6, how6, hst6, hk6, hown6, hsz6⟩ := hj5.app hB hst s0 hm (by have := t5.size; have := hb.size; omega)
            have HK := Lib.hid (run_load1 (P := Tryz.prog) (w := W5) Tryz.underlying45 rfl (cellOf (o := 4) hj5.1.p5 rfl))
            have HBS := Lib.hid (run_buildSlice_one (P := Tryz.prog) (w := W5) (v := .string (strB s0)) Tryz.underlying45 Tryz.sizeOf9 Tryz.zeroValue9 rfl (by omega) (by omega))
            have HA := Lib.hid happ
            have HS1 := Lib.hid hst1
            have HIN := Lib.hid (run_load1 (P := Tryz.prog) (w := W4.setCell ⟨B, 4, none⟩ (.slice pk1 n1 ck1)) Tryz.underlying170 rfl (cellOf (o := 0) hv6.p6 rfl))
            have HC := Lib.hid (rinner_any HV.out hd hv6 hst6 (by omega))
            rw [hr2] at HC
            have hkall : ∀ b, b < W1.heap.size → b ≠ q → W3.heap.size ≤ b → (Value.slice pk0 n0 ck0).ownBlock ≠ some b → (W4.setCell ⟨B, 4, none⟩ (.slice pk1 n1 ck1)).heap[b]? = W1.heap[b]? := fun b hb1 hq1 hge hno =>
              (hk6 b (by have := t5.size; have := HB.out.1.size; omega) (by omega) hno).trans ((t5.keep b (by have := HB.out.1.size; omega) hq1).trans (HB.out.1.block b hb1))
            have hkb : (W4.setCell ⟨B, 4, none⟩ (.slice pk1 n1 ck1)).heap[W1.heap.size]? = some (.cells #[.int .i64 0, .bool false, .int .i64 0, .string ⟨#[]⟩, .slice none 0 0, .slice none 0 0] 48 (0, 0)) := by
              have hlt : W1.heap.size < (W1.alloc (.cells #[.int .i64 0, .bool false, .int .i64 0, .string ⟨#[]⟩, .slice none 0 0, .slice none 0 0] 48)).heap.size := by simp
              refine (hk6 _ (by have := t5.size; omega) (by omega) fun e => ?_).trans ((t5.keep _ hlt (by have := HJ1.out.1.tr.size; omega)).trans HB.out.2.1)
              have := (HJ1.out.2.1.lt _ e).2
              omega
            have hgo : W1.heap.size < (W4.setCell ⟨B, 4, none⟩ (.slice pk1 n1 ck1)).heap.size := by have := t5.size; have : W1.heap.size < (W1.alloc (.cells #[.int .i64 0, .bool false, .int .i64 0, .string ⟨#[]⟩, .slice none 0 0, .slice none 0 0] 48)).heap.size := (by simp); omega
            have hown7 : (Value.slice pk1 n1 ck1).ownBlock = (Value.slice pk0 n0 ck0).ownBlock ∨ ∀ b, (Value.slice pk1 n1 ck1).ownBlock = some b → W1.heap.size < b := by
              rcases hown6 with e | e
              · exact .inl e
              · refine .inr fun b hb => ?_
                rw [e] at hb; cases hb
                have := t5.size
                have : W1.heap.size < (W1.alloc (.cells #[.int .i64 0, .bool false, .int .i64 0, .string ⟨#[]⟩, .slice none 0 0, .slice none 0 0] 48)).heap.size := (by simp)
                omega
            have HF := Lib.hid (And.intro hv6 (And.intro how6 (And.intro hst6 (And.intro hkall (And.intro hkb (And.intro hgo hown7))))))
            clear h5 t5 hb5 hst hj5 happ hst1 hv6 how6 hst6 hk6 hown6 hsz6 hkall hkb hgo hown7))
        | ((with_reducible apply op_load); exact HK.out; exact rfl; clear HK)
        | ((with_reducible apply op_bs1); exact HBS.out; exact rfl; clear HBS)
        | ((with_reducible apply op_append); exact HA.out; exact rfl; exact rfl)
        | ((with_reducible apply op_store); exact HS1.out; exact rfl; exact rfl; clear HS1)
        | ((with_reducible apply op_load); exact HIN.out; exact rfl; clear HIN)
        | (go_at_call 122; refine HC.out.mono ?_; rintro e W7 h7
           (
            obtain ⟨t7, hb7, x7, rfl, ⟨cs, rfl, hown⟩, hst7⟩ := h7.some
            obtain ⟨hv6, how6, hst6, hkall, hkb, hgo, hown7⟩ := HF.out
            have hqW : W1.heap.size ≠ q := by have := HJ1.out.1.tr.size; omega
            have hkb7 := (t7.keep _ hgo hqW).trans hkb
            have HST := Lib.hid (StT.put st_val hown.size6 hown.ones hkb7 rfl)
            have HLD := Lib.hid (StT.get st_val hown.size6 (setRow_heap W7 W1.heap.size _ cs _ _ hkb7))
            have ho : ∀ b, b ≠ W1.heap.size → (W7.setRow W1.heap.size cs).heap[b]? = W7.heap[b]? := fun b hb => setRow_other W7 _ b cs hb
            have hs8 : (W7.setRow W1.heap.size cs).heap.size = W7.heap.size := by simp
            have hB8 : Below w.heap.size w (W7.setRow W1.heap.size cs) := by
              have hgs := hb7.size
              have h0 := hst6.base
              have h1 := HJ1.out.1.tr.size
              obtain ⟨b1, b2, b3, b4, b5⟩ := hb7
              exact ⟨b1, b2, b3, by rw [hs8]; exact hgs, fun b hb => (ho b (by omega)).trans (b5 b hb)⟩
            have hnotB : (Value.slice pk1 n1 ck1).ownBlock ≠ some W1.heap.size := fun e => by
              rcases hown7 with e7 | e7
              · have := (HJ1.out.2.1.lt _ (e7.symm.trans e)).2; omega
              · have := e7 _ e; omega
            have hv8 : VS W0 q ((d : Int) + 1) B #[.int .i64 5, .bool false, .int .i64 0, .string ⟨#[]⟩, .slice pk1 n1 ck1, .slice none 0 0] (W7.setRow W1.heap.size cs) :=
              (hv6.step t7).keep (by rw [hs8]; exact Nat.le_refl _) fun b hb1 hq1 => ho b (by have := HJ1.out.1.tr.size; have := HJ1.out.1.lt; omega)
            have how8 : OwnsP (W7.setRow W1.heap.size cs) (fun b => W3.heap.size ≤ b) 9 1 (.slice pk1 n1 ck1) (m.length + 1) ((m.map fun p => strV p.1) ++ [strV s0]) :=
              ⟨ownsRow_heap how6.1 fun g hg => (ho g fun e => hnotB (e ▸ hg)).trans (t7.keep g (how6.1.lt g hg).2 (by have := how6.2 g hg; omega)), how6.2⟩
            have hone : ROne 141 (fun w P (p : List UInt8 × V) x => VOwn w P p.2 x) w W3 q (MapR W0 W3 q d B) m W1 (.slice pk0 n0 ck0) (s0, v) s cs (.slice pk1 n1 ck1) (W7.setRow W1.heap.size cs) := by
              refine ⟨by rw [hs8]; have := t7.size; omega, fun b hb1 hq1 hge hno => (ho b (by omega)).trans ((t7.keep b (by omega) hq1).trans (hkall b hb1 hq1 hge hno)), ?_, hst7.other hB8 (ho q (by omega)), ⟨hv8, by rw [List.length_append, List.map_append]; exact how8⟩, ?_⟩
              · exact (hown.keep (w' := W7.setRow W1.heap.size cs) fun b hb1 _ => ho b (by omega)).imp fun b _ hb1 => ⟨by omega, fun e => by have := (how6.1.lt b e).2; omega⟩
              · rcases hown7 with e7 | e7
                · exact .inl e7
                · exact .inr fun b hb => by have := e7 b hb; omega
            have HR := Lib.hid hone
            clear h7 t7 hb7 hown hst7 hv6 how6 hst6 hkall hkb hgo hown7 hqW hkb7 ho hs8 hB8 hnotB hv8 how8 hone HC HF))
        | ((with_reducible apply op_store); exact HST.out; exact rfl; exact rfl))
      refine bodyPost_ret (results_cell_one rfl _ _ ⟨W1.heap.size, 0, none⟩ _ rfl HLD.out) rfl ?_
      exact ⟨cs, _, rfl, HR.out, hsr⟩
end Go.Proofs.YthdfedfholmbmaaGreatDoor
