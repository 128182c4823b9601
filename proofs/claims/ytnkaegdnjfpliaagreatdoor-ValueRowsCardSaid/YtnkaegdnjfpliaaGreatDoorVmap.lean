/- value.Map. Printed by gen_map.py. -/
import Derived.Test.YtnkaegdnjfpliaaGreatDoorVsk
import Derived.Test.YtnkaegdnjfpliaaGreatDoorVtell
namespace Go.Proofs.YtnkaegdnjfpliaaGreatDoor
set_option linter.unusedSimpArgs false
set_option linter.unusedVariables false
open Go.RowKit

/-! ### What is made -/
theorem own_ne {w : World} {P P' : Nat → Prop} {vk vl : Value} {n m : Nat} {xs ys : List Value} (hk : OwnsP w P 9 1 vk n xs) (hl : OwnsP w P' 26 6 vl m ys) {b : Nat} (h1 : vk.ownBlock = some b) (h2 : vl.ownBlock = some b) : False := by
  rcases hk.1.2 with ⟨rfl, _⟩ | ⟨g, cap, cur, rfl, _, hh, _⟩
  · simp [Value.ownBlock] at h1
  · rcases hl.1.2 with ⟨rfl, _⟩ | ⟨g', cap', cur', rfl, _, hh', _⟩
    · simp [Value.ownBlock] at h2
    · obtain rfl : g = b := by simpa [Value.ownBlock] using h1
      obtain rfl : g' = g := by simpa [Value.ownBlock] using h2
      rw [hh] at hh'
      simp only [Option.some.injEq, Obj.cells.injEq] at hh'
      exact absurd hh'.2.1 (by decide)
/-- Keys and values of a map that is being made, behind its box. -/
structure MInv (vb : Nat) (W : World) (vk vl : Value) (K : List (List UInt8)) (L : List V) : Prop where
  keys : OwnsP W (fun b => vb < b) 9 1 vk K.length (K.map strV)
  vals : ∃ xs, OwnsP W (fun b => vb < b) 26 6 vl L.length (xs.flatMap Array.toList) ∧ VOwns W (fun b => vb < b ∧ vl.ownBlock ≠ some b ∧ vk.ownBlock ≠ some b) L xs
theorem MInv.start (vb : Nat) (W : World) : MInv vb W (.slice none 0 0) (.slice none 0 0) [] [] :=
  ⟨⟨⟨rfl, .inl ⟨rfl, rfl⟩⟩, fun g hg => by simp [Value.ownBlock] at hg⟩, [], ⟨⟨rfl, .inl ⟨rfl, rfl⟩⟩, fun g hg => by simp [Value.ownBlock] at hg⟩, rfl⟩
theorem MInv.keep {vb : Nat} {W W' : World} {vk vl : Value} {K : List (List UInt8)} {L : List V} (h : MInv vb W vk vl K L) (hk : ∀ b, vb < b → b < W.heap.size → W'.heap[b]? = W.heap[b]?) : MInv vb W' vk vl K L := by
  obtain ⟨h1, xs, h2, h3⟩ := h
  exact ⟨h1.keep hk, xs, h2.keep hk, h3.keep fun b hp hb => hk b hp.1 hb⟩
theorem MInv.below {vb : Nat} {W W' : World} {vk vl : Value} {K : List (List UInt8)} {L : List V} (h : MInv vb W vk vl K L) (g : Below W.heap.size W W') : MInv vb W' vk vl K L := h.keep fun b _ hb => g.block b hb
theorem MInv.key {vb : Nat} {W : World} {vk vl : Value} {K : List (List UInt8)} {L : List V} (h : MInv vb W vk vl K L) {g : Nat} {s : List UInt8} (hg : W.heap[g]? = some (.cells #[.string (strB s)] 9 (0, 0))) (hn : K.length ≤ 1000000) (hvb : vb < W.heap.size) (ty : TypeId) :
    ∃ v' W2, (Builtin.append_ #[23, 23] ty #[vk, .slice (some ⟨g, 0, none⟩) 1 1]).run Tryz.prog W = .ok v' W2 ∧ MInv vb W2 v' vl (K ++ [s]) L ∧ Below (vb + 1) W W2 := by
  obtain ⟨h1, xs, h2, h3⟩ := h
  obtain ⟨v', W2, a1, a2, a3, a4, a5⟩ := append_str h1.1 hg hn ty
  have hlt : ∀ b, vk.ownBlock = some b → b < W.heap.size := fun b hb => (h1.1.lt b hb).2
  refine ⟨v', W2, a1, ⟨⟨?_, fun b hb => ?_⟩, xs, ⟨ownsRow_heap h2.1 fun b hb => a3.block b (h2.1.lt b hb).2 (fun e => own_ne h1 h2 e hb), h2.2⟩, ?_⟩, a3.below (Below.refl (vb + 1) W) (fun b hb e => by have := h1.2 b e; omega) (by omega)⟩
  · rw [List.map_append, List.length_append]; exact a2
  · rcases a4 with e | e
    · exact h1.2 b (e.symm.trans hb)
    · rw [e] at hb; cases hb; exact hvb
  · refine ((h3.imp (P' := fun b => (vb < b ∧ vl.ownBlock ≠ some b ∧ vk.ownBlock ≠ some b) ∧ b < W.heap.size) fun b hb hp => ⟨hp, hb⟩).keep fun b hp hb => a3.block b hb hp.1.2.2).imp fun b _ hp => ⟨hp.1.1, hp.1.2.1, ?_⟩
    rcases a4 with e | e
    · rw [e]; exact hp.1.2.2
    · rw [e]; intro e2; cases e2; have := hp.2; omega
theorem MInv.val {vb : Nat} {W : World} {vk vl : Value} {K : List (List UInt8)} {L : List V} (h : MInv vb W vk vl K L) {g : Nat} {x : Array Value} {v : V} (hx : VOwn W (fun b => vb < b ∧ vl.ownBlock ≠ some b ∧ vk.ownBlock ≠ some b) v x) (hg : W.heap[g]? = some (.cells x 26 (0, 0))) (hn : L.length ≤ 1000000) (hvb : vb < W.heap.size) (ty : TypeId) :
    ∃ v' W2, (Builtin.append_ #[24, 24] ty #[vl, .slice (some ⟨g, 0, none⟩) 1 1]).run Tryz.prog W = .ok v' W2 ∧ MInv vb W2 vk v' K (L ++ [v]) ∧ Below (vb + 1) W W2 := by
  obtain ⟨h1, xs, h2, h3⟩ := h
  obtain ⟨v', W2, a1, a2, a3, a4, a5⟩ := append_val h2.1 hx.size6 hx.ones hg hn ty
  refine ⟨v', W2, a1, ⟨⟨ownsRow_heap h1.1 fun b hb => a3.block b (h1.1.lt b hb).2 (fun e => own_ne h1 h2 hb e), h1.2⟩, xs ++ [x], ⟨?_, fun b hb => ?_⟩, ?_⟩, a3.below (Below.refl (vb + 1) W) (fun b hb e => by have := h2.2 b e; omega) (by omega)⟩
  · rw [List.flatMap_append, List.length_append]; simpa using a2
  · rcases a4 with e | e
    · exact h2.2 b (e.symm.trans hb)
    · rw [e] at hb; cases hb; exact hvb
  · refine (((VOwns_snoc h3 hx).imp (P' := fun b => (vb < b ∧ vl.ownBlock ≠ some b ∧ vk.ownBlock ≠ some b) ∧ b < W.heap.size) fun b hb hp => ⟨hp, hb⟩).keep fun b hp hb => a3.block b hb hp.1.2.1).imp fun b _ hp => ⟨hp.1.1, ?_, hp.1.2.2⟩
    rcases a4 with e | e
    · rw [e]; exact hp.1.2.1
    · rw [e]; intro e2; cases e2; have := hp.2; omega
/-! ### Small words -/
theorem results_cell_tmp {P : Program} {fn : Func} {p u : Tmp} {ty : TypeId} (h : fn.results = #[.cell p ty, .tmp u]) (tmps : Array Value) (w : World) (ad : Addr) (v x : Value)
    (hp : tmps.getD p undef = .pointer (some ad)) (hu : tmps.getD u undef = x) (hl : (loadVar ty ad).run P w = .ok v w) : (results fn tmps).run P w = .ok (.tuple #[v, x]) w := by
  have hp' : tmps[p]?.getD undef = .pointer (some ad) := by simpa using hp
  have hu' : tmps[u]?.getD undef = x := by simpa using hu
  simp [results, h, hp', hu', asAddr, hl]
theorem rises_snoc {a b : List UInt8} (h : ltB a b = true) : ∀ l : List (List UInt8), risesB (l ++ [a]) = true → risesB (l ++ [a] ++ [b]) = true
  | [], _ => by simp [risesB, h]
  | [x], hl => by simp only [List.cons_append, List.nil_append, risesB, Bool.and_eq_true] at hl ⊢; exact ⟨hl.1, h, trivial⟩
  | x :: y :: r, hl => by
    simp only [List.cons_append, risesB, Bool.and_eq_true] at hl ⊢
    exact ⟨hl.1, by simpa using rises_snoc h (y :: r) hl.2⟩
theorem info_int : ∃ i, Tryz.prog.info? 3 = some i ∧ i.zero = some (.int .i64 0) ∧ i.size = 1 ∧ i.bytes = 8 := info_parts (by kernel_rfl)
theorem make_ints (n : Nat) (hn : n ≤ 1000000) (w : World) :
    ∃ w' cs, (Instr.makeSlice 89 (.int .i64 (n : Int)) (.int .i64 (n : Int))).run Tryz.prog w = .ok (.slice (some ⟨w.heap.size, 0, none⟩) n n) w' ∧ w'.heap[w.heap.size]? = some (.cells cs 3 (0, 0)) ∧ cs.size = n ∧ Below w.heap.size w w' := by
  obtain ⟨i0, h1, h2, h3, h4⟩ := info_int
  obtain ⟨w', hr, hown, hg⟩ := run_makeSlice_full (P := Tryz.prog) (w := w) 0 89 3 i0 (.int .i64 0) 1 Tryz.underlying89 h1 h2 h3 .i64 .i64 n (by omega) (by rw [h4]; omega) (by unfold maxLen; omega) (Nat.zero_le _)
  rcases hown.2 with ⟨e, _⟩ | ⟨g, cap, cur, e, _, hh, _, _, hs, _⟩
  · cases e
  · cases e
    exact ⟨w', cur, hr, hh, by omega, ⟨hg.os, hg.tape, hg.output, hg.size, fun b hb => hg.block b hb (by simp)⟩⟩
theorem ia_ints (g o k n c : Nat) (h : k < n) (W : World) : (Instr.indexAt 89 (.slice (some ⟨g, o, none⟩) n c) (.int .i64 (k : Int))).run Tryz.prog W = .ok (.pointer (some ⟨g, o + k, none⟩)) W := by
  have h1 : 0 ≤ (k : Int) := by omega
  simp [go_sem, h, addr_add]
/-- Places written so far. -/
def Fill (n g : Nat) (w3 W : World) (j : Nat) : Prop := Below g w3 W ∧ ∃ cs, W.heap[g]? = some (.cells cs 3 (0, 0)) ∧ cs.size = n ∧ ∀ i, i < j → cs[i]? = some (.int .i64 (i : Int))
theorem Fill.step {n g : Nat} {w3 W : World} {j : Nat} (h : Fill n g w3 W j) (hj : j < n) : (∃ u, W.cell? ⟨g, j, none⟩ = some u) ∧ W.frozen? ⟨g, j, none⟩ = false ∧ Fill n g w3 (W.setCell ⟨g, j, none⟩ (.int .i64 (j : Int))) (j + 1) := by
  obtain ⟨hb, cs, hh, hs, hc⟩ := h
  refine ⟨⟨cs[j]'(by omega), cellOf hh (Array.getElem?_eq_getElem (by omega))⟩, freeOf hh, belowSet hb (Nat.le_refl _) _ (o := j), _, box_set (k := j) _ hh, by simp [hs], fun i hi => ?_⟩
  by_cases e : i = j
  · subst e; simp [hs, hj]
  · rw [Array.getElem?_setIfInBounds, if_neg (fun h => e h.symm)]; exact hc i (by omega)
def V0 : V := .mk 0 false 0 [] [] []
/-- What Map answers. -/
def MapOk (w : World) (ks : List (List UInt8)) (l : List V) (e : Ending) (w' : World) : Prop :=
  Below w.heap.size w w' ∧ ∃ x no v, e = .returned (.tuple #[.agg x, .int .i64 no]) ∧ VOwn w' (fun b => w.heap.size ≤ b) v x ∧
    ((no = 2 ∧ v = V0 ∧ (ks.length ≠ l.length ∨ ¬ ks.Nodup)) ∨
     (no = 0 ∧ ks.length = l.length ∧ ∃ q : List Nat, q.Perm (List.range ks.length) ∧ v = .mk 5 false 0 [] (q.map fun i => ks.getD i []) (q.map fun i => l.getD i V0) ∧ risesB (q.map fun i => ks.getD i []) = true))
theorem own_zero (W : World) (P : Nat → Prop) : VOwn W P V0 #[.int .i64 0, .bool false, .int .i64 0, .string ⟨#[]⟩, .slice none 0 0, .slice none 0 0] :=
  VOwn_iff.2 ⟨_, _, rfl, ⟨⟨rfl, .inl ⟨rfl, rfl⟩⟩, fun g hg => by simp [Value.ownBlock] at hg⟩, [], ⟨⟨rfl, .inl ⟨rfl, rfl⟩⟩, fun g hg => by simp [Value.ownBlock] at hg⟩, rfl⟩
/-- What lies about Map: its boxes. -/
structure MapB (w : World) (p : Option Addr) (n c : Nat) (W : World) : Prop where
  keys : W.heap[w.heap.size]? = some (.cells #[.slice p n c] 23 (0, 0))
  res : W.heap[w.heap.size + 1]? = some (.cells #[.int .i64 0, .bool false, .int .i64 0, .string ⟨#[]⟩, .slice none 0 0, .slice none 0 0] 26 (0, 0))
  below : Below w.heap.size w W
theorem MapB.start (w : World) (p : Option Addr) (n c : Nat) : MapB w p n c ((w.alloc (.cells #[.slice p n c] 23)).alloc (.cells #[.int .i64 0, .bool false, .int .i64 0, .string ⟨#[]⟩, .slice none 0 0, .slice none 0 0] 26)) := by
  have s1 : (w.alloc (.cells #[.slice p n c] 23)).heap.size = w.heap.size + 1 := by simp
  have h2 := heap_alloc_new (w.alloc (.cells #[.slice p n c] 23)) (.cells #[.int .i64 0, .bool false, .int .i64 0, .string ⟨#[]⟩, .slice none 0 0, .slice none 0 0] 26)
  rw [s1] at h2
  exact ⟨belowBlk (below_new _) (by simp) (heap_alloc_new w _), h2, below_trans (below_new _) (below_new _)⟩
theorem MapB.keep {w W W' : World} {p : Option Addr} {n c : Nat} (h : MapB w p n c W) {B : Nat} (g : Below B W W') (hB : w.heap.size + 2 ≤ B) : MapB w p n c W' :=
  ⟨(g.block _ (by omega)).trans h.keys, (g.block _ (by omega)).trans h.res, h.below.trans (g.mono (by omega))⟩
/-- A value comes into the box of results. -/
theorem MapB.put {w W : World} {p : Option Addr} {n c : Nat} (h : MapB w p n c W) {v : V} {x : Array Value} (hx : VOwn W (fun b => w.heap.size + 2 ≤ b) v x) :
    ∃ W', (storeVar 26 ⟨w.heap.size + 1, 0, none⟩ (.agg x)).run Tryz.prog W = .ok () W' ∧ (loadVar 26 ⟨w.heap.size + 1, 0, none⟩).run Tryz.prog W' = .ok (.agg x) W' ∧ VOwn W' (fun b => w.heap.size ≤ b) v x ∧ Below w.heap.size w W' := by
  obtain ⟨vk, vl, rfl, hk, hl⟩ := hx.open
  have h1 := run_storeVar_row (P := Tryz.prog) W (w.heap.size + 1) 26 26 _ #[.int .i64 v.kind, .bool v.b, .int .i64 v.n, .string (strB v.text), vk, vl] h.res (by kernel_rfl) rfl (Array.all_eq_true_iff_forall_mem.2 fun u hu => hx.ones u (by simpa using hu))
  have h2 := setRow_heap W (w.heap.size + 1) _ #[.int .i64 v.kind, .bool v.b, .int .i64 v.n, .string (strB v.text), vk, vl] 26 _ h.res
  have hT : Touch (fun b => b = w.heap.size + 1) W (W.setRow (w.heap.size + 1) #[.int .i64 v.kind, .bool v.b, .int .i64 v.n, .string (strB v.text), vk, vl]) := ⟨rfl, rfl, rfl, by simp, fun g _ hg => setRow_other W (w.heap.size + 1) g _ hg⟩
  exact ⟨_, h1, get_val h2, (hx.keep fun b hb _ => setRow_other W (w.heap.size + 1) b _ (by omega)).imp fun b _ hb => by omega, hT.below h.below (fun b hb e => by omega) h.below.size⟩
/-- The map that is being made, in its box. -/
structure MapV (w5 W : World) (vk vl : Value) (K : List (List UInt8)) (L : List V) : Prop where
  box : W.heap[w5.heap.size]? = some (.cells #[.int .i64 5, .bool false, .int .i64 0, .string ⟨#[]⟩, vk, vl] 26 (0, 0))
  inv : MInv w5.heap.size W vk vl K L
  below : Below w5.heap.size w5 W
theorem MapV.start (w5 : World) : MapV w5 (w5.alloc (.cells #[.int .i64 5, .bool false, .int .i64 0, .string ⟨#[]⟩, .slice none 0 0, .slice none 0 0] 26)) (.slice none 0 0) (.slice none 0 0) [] [] :=
  ⟨heap_alloc_new _ _, MInv.start _ _, below_new _⟩
theorem MapV.keep {w5 W W' : World} {vk vl : Value} {K : List (List UInt8)} {L : List V} (h : MapV w5 W vk vl K L) (g : Below W.heap.size W W') : MapV w5 W' vk vl K L :=
  ⟨belowBlk g (Array.getElem?_eq_some_iff.1 h.box).1 h.box, h.inv.below g, h.below.trans (g.mono h.below.size)⟩
theorem MapV.lt {w5 W : World} {vk vl : Value} {K : List (List UInt8)} {L : List V} (h : MapV w5 W vk vl K L) : w5.heap.size < W.heap.size := (Array.getElem?_eq_some_iff.1 h.box).1
theorem MapV.own {w5 W : World} {vk vl : Value} {K : List (List UInt8)} {L : List V} (h : MapV w5 W vk vl K L) : VOwn W (fun b => w5.heap.size ≤ b) (.mk 5 false 0 [] K L) #[.int .i64 5, .bool false, .int .i64 0, .string ⟨#[]⟩, vk, vl] := by
  obtain ⟨h1, xs, h2, h3⟩ := h.inv
  exact VOwn_iff.2 ⟨_, _, rfl, h1.imp fun b _ hb => by omega, xs, h2.imp fun b _ hb => by omega, h3.imp fun b _ hb => by omega⟩
/-- A key more. -/
theorem MapV.key {w5 W : World} {vk vl : Value} {K : List (List UInt8)} {L : List V} (h : MapV w5 W vk vl K L) (s : List UInt8) (hn : K.length ≤ 1000000) (ty : TypeId) :
    ∃ p n c W2, (Builtin.append_ #[23, 23] ty #[vk, .slice (some ⟨W.heap.size, 0, none⟩) 1 1]).run Tryz.prog (W.alloc (.cells #[.string (strB s)] 9)) = .ok (.slice p n c) W2 ∧
      Below (w5.heap.size + 1) W W2 ∧ W2.cell? ⟨w5.heap.size, 4, none⟩ = some vk ∧ W2.frozen? ⟨w5.heap.size, 4, none⟩ = false ∧ MapV w5 (W2.setCell ⟨w5.heap.size, 4, none⟩ (.slice p n c)) (.slice p n c) vl (K ++ [s]) L := by
  have hA : MapV w5 (W.alloc (.cells #[.string (strB s)] 9)) vk vl K L := h.keep (below_new _)
  have hlt := h.lt
  obtain ⟨v', W2, a1, a2, a3⟩ := hA.inv.key (heap_alloc_new W _) hn (by simp; omega) ty
  obtain ⟨p, c, rfl⟩ := slices_of a2.keys
  have hb2 := (a3.block _ (by omega)).trans hA.box
  refine ⟨p, _, c, W2, a1, (((below_new _).mono (by omega : w5.heap.size + 1 ≤ W.heap.size))).trans a3, cellOf (o := 4) hb2 rfl, freeOf hb2, box_set (k := 4) _ hb2, a2.keep fun b hb _ => Below.heap_setCell W2 ⟨w5.heap.size, 4, none⟩ _ b (by show b ≠ w5.heap.size; omega), belowSet (hA.below.trans (a3.mono (by omega))) (Nat.le_refl _) _⟩
/-- A value more. -/
theorem MapV.val {w5 W W1 : World} {vk vl : Value} {K : List (List UInt8)} {L : List V} (h : MapV w5 W vk vl K L) (hb : Below W.heap.size W W1) {v : V} {x : Array Value} (hx : VOwn W1 (fun b => W.heap.size ≤ b) v x) (hn : L.length ≤ 1000000) (ty : TypeId) :
    ∃ p n c W2, (Builtin.append_ #[24, 24] ty #[vl, .slice (some ⟨W1.heap.size, 0, none⟩) 1 1]).run Tryz.prog (W1.alloc (.cells x 26)) = .ok (.slice p n c) W2 ∧
      Below (w5.heap.size + 1) W W2 ∧ W2.cell? ⟨w5.heap.size, 5, none⟩ = some vl ∧ W2.frozen? ⟨w5.heap.size, 5, none⟩ = false ∧ MapV w5 (W2.setCell ⟨w5.heap.size, 5, none⟩ (.slice p n c)) vk (.slice p n c) K (L ++ [v]) := by
  have h1 := h.keep hb
  have hA : MapV w5 (W1.alloc (.cells x 26)) vk vl K L := h1.keep (below_new _)
  have hlt := h.lt
  have hsz := hb.size
  have hkb : ∀ b, vk.ownBlock = some b → b < W.heap.size := fun b e => (h.inv.keys.1.lt b e).2
  have hlb : ∀ b, vl.ownBlock = some b → b < W.heap.size := by
    obtain ⟨_, xs, h2, _⟩ := h.inv
    exact fun b e => (h2.1.lt b e).2
  obtain ⟨v', W2, a1, a2, a3⟩ := hA.inv.val ((hx.below (below_new _)).imp fun b _ hp => ⟨by omega, fun e => by have := hlb b e; omega, fun e => by have := hkb b e; omega⟩) (heap_alloc_new W1 _) hn (by simp; omega) ty
  obtain ⟨p, c, rfl⟩ : ∃ p c, v' = .slice p (L ++ [v]).length c := by obtain ⟨_, _, h, _⟩ := a2; exact slices_of h
  have hb2 := (a3.block _ (by omega)).trans hA.box
  refine ⟨p, _, c, W2, a1, ((hb.mono (by omega : w5.heap.size + 1 ≤ W.heap.size)).trans ((below_new _).mono (by omega : w5.heap.size + 1 ≤ W1.heap.size))).trans a3, cellOf (o := 5) hb2 rfl, freeOf hb2, box_set (k := 5) _ hb2, a2.keep fun b hb _ => Below.heap_setCell W2 ⟨w5.heap.size, 5, none⟩ _ b (by show b ≠ w5.heap.size; omega), belowSet (hA.below.trans (a3.mono (by omega))) (Nat.le_refl _) _⟩
/-! ### The order of keys -/
theorem take_map {α : Type} (f : Nat → α) {q : List Nat} {j a : Nat} (h : q[j]? = some a) : (q.take (j + 1)).map f = (q.take j).map f ++ [f a] := by
  obtain ⟨hj, rfl⟩ := List.getElem?_eq_some_iff.1 h
  rw [List.take_succ_eq_append_getElem hj, List.map_append, List.map_cons, List.map_nil]
theorem rise_step {f : Nat → List UInt8} {q : List Nat} {m a b : Nat} (ha : q[m]? = some a) (hb : q[m + 1]? = some b) (h : cmpB (f a) (f b) ≤ 0) (hne : f a ≠ f b) (hr : risesB ((q.take (m + 1)).map f) = true) : risesB ((q.take (m + 2)).map f) = true := by
  rw [take_map f hb, take_map f ha]
  rw [take_map f ha] at hr
  refine rises_snoc ?_ _ hr
  have h1 : cmpB (f a) (f b) ≠ 0 := fun e => hne (cmpB_zero e)
  have h2 := (ord_cmpB (f a)).range (f b)
  unfold ltB
  rw [beq_iff_eq]
  omega
theorem not_nodup {ks : List (List UInt8)} {q : List Nat} (hp : q.Perm (List.range ks.length)) {m a b : Nat} (ha : q[m]? = some a) (hb : q[m + 1]? = some b) (h : ks.getD a [] = ks.getD b []) : ¬ ks.Nodup := by
  intro hd
  obtain ⟨hm, rfl⟩ := List.getElem?_eq_some_iff.1 ha
  obtain ⟨hm1, rfl⟩ := List.getElem?_eq_some_iff.1 hb
  have h1 : q[m] < ks.length := List.mem_range.1 (hp.mem_iff.1 (List.getElem_mem hm))
  have h2 : q[m + 1] < ks.length := List.mem_range.1 (hp.mem_iff.1 (List.getElem_mem hm1))
  have hq : q.Nodup := hp.nodup_iff.2 List.nodup_range
  have hne : q[m] ≠ q[m + 1] := List.pairwise_iff_getElem.1 hq m (m + 1) hm hm1 (Nat.lt_succ_self _)
  have g1 : ks.getD q[m] [] = ks[q[m]] := by simp [List.getD, h1]
  have g2 : ks.getD q[m + 1] [] = ks[q[m + 1]] := by simp [List.getD, h2]
  rw [g1, g2] at h
  rcases Nat.lt_or_gt_of_ne hne with c | c
  · exact List.pairwise_iff_getElem.1 hd _ _ h1 h2 c h
  · exact List.pairwise_iff_getElem.1 hd _ _ h2 h1 c h.symm
/-! ### What the drawn regions see -/
structure M14 (kb bk ok n ck g m a b : Nat) (s1 s2 : List UInt8) (W : World) : Prop where
  box : W.heap[kb]? = some (.cells #[.slice (some ⟨bk, ok, none⟩) n ck] 23 (0, 0))
  ix : W.cell? ⟨g, m, none⟩ = some (.int .i64 (a : Int))
  one : W.cell? ⟨bk, ok + a, none⟩ = some (.string (strB s1))
  two : W.cell? ⟨bk, ok + b, none⟩ = some (.string (strB s2))
structure M16 (kb bk ok n ck vb b : Nat) (x : Array Value) (s : List UInt8) (W : World) : Prop where
  box : W.heap[kb]? = some (.cells #[.slice (some ⟨bk, ok, none⟩) n ck] 23 (0, 0))
  val : W.heap[vb]? = some (.cells x 26 (0, 0))
  two : W.cell? ⟨bk, ok + b, none⟩ = some (.string (strB s))
theorem M16.keep {kb bk ok n ck vb b : Nat} {x : Array Value} {s : List UInt8} {W W' : World} (h : M16 kb bk ok n ck vb b x s W) {B : Nat} (g : Below B W W') (h1 : kb < B) (h2 : vb < B) (h3 : bk < B) : M16 kb bk ok n ck vb b x s W' :=
  ⟨(g.block _ h1).trans h.box, (g.block _ h2).trans h.val, belowCell g h3 h.two⟩
structure M17 (vb bl o : Nat) (x : Array Value) (c0 c1 c2 c3 c4 c5 : Value) (W : World) : Prop where
  val : W.heap[vb]? = some (.cells x 26 (0, 0))
  c0 : W.cell? ⟨bl, o, none⟩ = some c0
  c1 : W.cell? ⟨bl, o + 1, none⟩ = some c1
  c2 : W.cell? ⟨bl, o + 2, none⟩ = some c2
  c3 : W.cell? ⟨bl, o + 3, none⟩ = some c3
  c4 : W.cell? ⟨bl, o + 4, none⟩ = some c4
  c5 : W.cell? ⟨bl, o + 5, none⟩ = some c5
theorem M17.keep {vb bl o : Nat} {x : Array Value} {c0 c1 c2 c3 c4 c5 : Value} {W W' : World} (h : M17 vb bl o x c0 c1 c2 c3 c4 c5 W) {B : Nat} (g : Below B W W') (h1 : vb < B) (h2 : bl < B) : M17 vb bl o x c0 c1 c2 c3 c4 c5 W' :=
  ⟨(g.block _ h1).trans h.val, belowCell g h2 h.c0, belowCell g h2 h.c1, belowCell g h2 h.c2, belowCell g h2 h.c3, belowCell g h2 h.c4, belowCell g h2 h.c5⟩
theorem ia_ints0 (g k n c : Nat) (h : k < n) (W : World) : (Instr.indexAt 89 (.slice (some ⟨g, 0, none⟩) n c) (.int .i64 (k : Int))).run Tryz.prog W = .ok (.pointer (some ⟨g, k, none⟩)) W := by
  have := ia_ints g 0 k n c h W
  rwa [Nat.zero_add] at this
theorem build_val (W : World) {P : Nat → Prop} {v : V} {k : Int} {b : Bool} {n : Int} {t : ByteArray} {vk vl : Value} (h : VOwn W P v #[.int .i64 k, .bool b, .int .i64 n, .string t, vk, vl]) :
    (Instr.buildSlice 24 1 #[(0, .agg #[.int .i64 k, .bool b, .int .i64 n, .string t, vk, vl])]).run Tryz.prog W = .ok (.slice (some ⟨W.heap.size, 0, none⟩) 1 1) (W.alloc (.cells #[.int .i64 k, .bool b, .int .i64 n, .string t, vk, vl] 26)) := by
  obtain ⟨vk', vl', e, hk, hl⟩ := h.open
  simp only [Array.mk.injEq, List.cons.injEq, and_true] at e
  obtain ⟨_, _, _, _, rfl, rfl⟩ := e
  obtain ⟨p, c, rfl⟩ := slices_of hk
  obtain ⟨xs, hl1, _⟩ := hl
  obtain ⟨p', c', rfl⟩ := slices_of hl1
  simp [go_sem]
/-- The order of places, as it lies. -/
structure MapQ (g : Nat) (w5 : World) (ks : List (List UInt8)) (q : List Nat) (cs : Array Value) : Prop where
  intro ::
  row : w5.heap[g]? = some (.cells cs 3 (0, 0))
  perm : q.Perm (List.range ks.length)
  order : InOrder ks q
  cell : ∀ i (hi : i < q.length), cs[i]? = some (.int .i64 (q[i] : Int))
theorem MapQ.len {g : Nat} {w5 : World} {ks : List (List UInt8)} {q : List Nat} {cs : Array Value} (h : MapQ g w5 ks q cs) : q.length = ks.length := by have := h.perm.length_eq; simpa using this
theorem MapQ.get {g : Nat} {w5 : World} {ks : List (List UInt8)} {q : List Nat} {cs : Array Value} (h : MapQ g w5 ks q cs) {j : Nat} (hj : j < ks.length) :
    ∃ b, q[j]? = some b ∧ b < ks.length ∧ ∀ W, Below w5.heap.size w5 W → W.cell? ⟨g, j, none⟩ = some (.int .i64 (b : Int)) := by
  have hq : j < q.length := by rw [h.len]; exact hj
  refine ⟨q[j], List.getElem?_eq_getElem hq, List.mem_range.1 (h.perm.mem_iff.1 (List.getElem_mem hq)), fun W hb => ?_⟩
  exact cellOf (belowBlk hb (Array.getElem?_eq_some_iff.1 h.row).1 h.row) (h.cell j hq)
theorem MapQ.le {g : Nat} {w5 : World} {ks : List (List UInt8)} {q : List Nat} {cs : Array Value} (h : MapQ g w5 ks q cs) {m a b : Nat} (ha : q[m]? = some a) (hb : q[m + 1]? = some b) : cmpB (ks.getD a []) (ks.getD b []) ≤ 0 := by
  obtain ⟨hm, rfl⟩ := List.getElem?_eq_some_iff.1 ha
  obtain ⟨hm1, rfl⟩ := List.getElem?_eq_some_iff.1 hb
  exact h.order m (m + 1) hm hm1 (Nat.lt_succ_self _)
/-- The map as far as it is made: j keys of the order. -/
def MapJ (w5 W : World) (ks : List (List UInt8)) (l : List V) (q : List Nat) (j : Nat) : Prop :=
  ∃ pk nk ck pl nl cl, MapV w5 W (.slice pk nk ck) (.slice pl nl cl) ((q.take j).map fun i => ks.getD i []) ((q.take j).map fun i => l.getD i V0) ∧ risesB ((q.take j).map fun i => ks.getD i []) = true
theorem MapJ.start (w5 : World) (ks : List (List UInt8)) (l : List V) (q : List Nat) : MapJ w5 (w5.alloc (.cells #[.int .i64 5, .bool false, .int .i64 0, .string ⟨#[]⟩, .slice none 0 0, .slice none 0 0] 26)) ks l q 0 :=
  ⟨none, 0, 0, none, 0, 0, MapV.start w5, rfl⟩
theorem MapB.lt {w W : World} {p : Option Addr} {n c : Nat} (h : MapB w p n c W) : w.heap.size + 1 < W.heap.size := (Array.getElem?_eq_some_iff.1 h.res).1
set_option maxRecDepth 100000 in
set_option maxHeartbeats 8000000 in
theorem map_any {w : World} {pk : Option Addr} {ck : Nat} {ks : List (List UInt8)} {pl : Option Addr} {cl : Nat} {l : List V} (hk : RdS w pk ck ks) (hl : LRd w pl cl l) (hn : ks.length ≤ 1000000) (ht : totVs l ≤ 1000000) :
    Calls Tryz.prog 36 #[.slice pk ks.length ck, .slice pl l.length cl] w (MapOk w ks l) := by
  have hll : l.length ≤ 1000000 := by have := totVs_length l; omega
  have z1 : (ks.length : Int) ≤ 1000000 := by omega
  have z2 : (l.length : Int) ≤ 1000000 := by omega
  have hT := MapB.start w pk ks.length ck
  by_cases he : ks.length = l.length
  · have hA : ∀ (no : Int) (v : V) (W : World) (x : Array Value), Below w.heap.size w W → VOwn W (fun b => w.heap.size ≤ b) v x →
        ((no = 2 ∧ v = V0 ∧ ¬ ks.Nodup) ∨ (no = 0 ∧ ∃ q : List Nat, q.Perm (List.range ks.length) ∧ v = .mk 5 false 0 [] (q.map fun i => ks.getD i []) (q.map fun i => l.getD i V0) ∧ risesB (q.map fun i => ks.getD i []) = true)) →
        MapOk w ks l (.returned (.tuple #[.agg x, .int .i64 no])) W := by
      intro no v W x h1 h2 h3
      refine ⟨h1, x, no, v, rfl, h2, ?_⟩
      rcases h3 with ⟨a, b, c⟩ | ⟨a, b⟩
      · exact .inl ⟨a, b, .inr c⟩
      · exact .inr ⟨a, he, b⟩
    have HL := Lib.hid hl
    have hsub : ∀ v ∈ l, totV v ≤ 1000000 := fun v hv => by have := totVs_mem hv; omega
    have HE := Lib.hid (And.intro he hsub)
    have HNN := Lib.hid hn
    generalize MapOk w ks l = Q at *
    rw [← he]
    obtain ⟨w3, cs3, m1, m2, m3, m4⟩ := make_ints ks.length hn ((w.alloc (.cells #[.slice pk ks.length ck] 23)).alloc (.cells #[.int .i64 0, .bool false, .int .i64 0, .string ⟨#[]⟩, .slice none 0 0, .slice none 0 0] 26))
    have es : ((w.alloc (.cells #[.slice pk ks.length ck] 23)).alloc (.cells #[.int .i64 0, .bool false, .int .i64 0, .string ⟨#[]⟩, .slice none 0 0, .slice none 0 0] 26)).heap.size = w.heap.size + 2 := by simp
    rw [es] at m1 m2 m4
    have hB3 := hT.keep m4 (Nat.le_refl _)
    have HF3 : Hid (Fill ks.length (w.heap.size + 2) w3 w3 0) := Lib.hid ⟨Below.refl _ _, cs3, m2, m3, fun i hi => by omega⟩
    have HM := Lib.hid m1
    have HB3 := Lib.hid hB3
    have HK := Lib.hid hk
    have HA := Lib.hid hA
    clear hA hl hk hT hB3 m1 m2 m3 m4 es he hll z2 ht hsub
    go_enter Tryz.func36, Tryz.ntmps36
    go_wp2_with (first
      | (refine wpList_run rfl (exec_makeSlice rfl rfl rfl HM.out) ?_))
    go_loopw [22] (fun i W => ∃ j : Nat, j ≤ ks.length ∧ i = .int .i64 (j : Int) ∧ Hid (Fill ks.length (w.heap.size + 2) w3 W j)) (fun i _ => ks.length - (intOf i).toNat)
    case atStart => exact ⟨0, Nat.zero_le _, rfl, HF3⟩
    case round =>
      obtain ⟨j, hj, rfl, HJ⟩ := hrel
      by_cases hlt : j < ks.length
      · have hlt1 : j + 1 ≤ ks.length := hlt
        obtain ⟨⟨u, q1⟩, q2, hS⟩ := HJ.out.step hlt
        have HS := Lib.hid hS
        clear HJ hS
        go_wp2
        go_roundw
        case rel => exact ⟨j + 1, hlt1, by go_num, HS⟩
        case measure => simp [intOf]; omega
      · obtain rfl : j = ks.length := by omega
        obtain ⟨hb4, cs4, q1, q2, q3⟩ := HJ.out
        have hB4 := HB3.out.keep hb4 (Nat.le_refl _)
        have HS := Lib.hid (sort_keys (cap := ks.length) HK.out HNN.out hB4.below (Nat.le_refl _) (by omega : w.heap.size < w.heap.size + 2) hB4.keys q1 q2 q3)
        have HB4 := Lib.hid (And.intro hB4 (Array.getElem?_eq_some_iff.1 q1).1)
        clear HJ hb4 q1 q2 q3 hB4 HF3 HM HB3
        go_wp2_with (first
          | (go_at_call 80
             (
               refine HS.out.mono ?_
               rintro e w5 ⟨rfl, hT, q, cs5, q4, hp, ho, q5⟩
               have hb5 : Below (w.heap.size + 2) wr w5 := hT.toBelow (by have := HB4.out.2; omega) (fun b hb e => by omega)
               have HB5 := Lib.hid (HB4.out.1.keep hb5 (Nat.le_refl _))
               have HQ := Lib.hid (MapQ.intro q4 hp ho q5)
               have HJ0 := Lib.hid (MapJ.start w5 ks l q)
               clear hT hb5 q4 hp ho q5 HS HB4)))
        have hlen : q.length = ks.length := by have := HQ.out.perm.length_eq; simpa using this
        clear hlen
        go_loopw [36] (fun i W => ∃ j : Nat, j ≤ ks.length ∧ i = .int .i64 (j : Int) ∧ Hid (MapJ w5 W ks l q j)) (fun i _ => ks.length - (intOf i).toNat)
        case atStart => exact ⟨0, Nat.zero_le _, rfl, HJ0⟩
        case round =>
          clear HJ0
          obtain ⟨j, hj, rfl, HJ⟩ := hrel
          by_cases hlt : j < ks.length
          · have hlt1 : j + 1 ≤ ks.length := hlt
            obtain ⟨b, hqb, hbn, hcell⟩ := HQ.out.get hlt
            obtain ⟨pk', nk', ck', pl', nl', cl', hV, hR⟩ := HJ.out
            have hbw : Below w.heap.size w wr := HB5.out.below.trans (hV.below.mono (Nat.le_trans HB5.out.below.size (Nat.le_refl _)))
            have hbx := (HB5.out.keep hV.below (by have := HB5.out.lt; omega)).keys
            obtain ⟨bk, ok, rfl, k0, _⟩ := HK.out.get hbn
            obtain ⟨bl, ol, pk1, ck1, pl1, cl1, rfl, ⟨a0, a1, a2, a3, a4, a5⟩, hv1⟩ := HL.out.at (show b < l.length by rw [← HE.out.1]; exact hbn)
            have hkz := ltOf k0
            have hlz := ltOf a0
            have k1 := belowCell hbw hkz k0
            have hc5 := hcell wr hV.below
            have hs2 : ks.getD b [] = ks[b] := by simp [List.getD, hbn]
            have hv2 : l.getD b V0 = l[b]'(by rw [← HE.out.1]; exact hbn) := by simp [List.getD, show b < l.length by rw [← HE.out.1]; exact hbn]
            have htot := HE.out.2 _ (List.getElem_mem (show b < l.length by rw [← HE.out.1]; exact hbn))
            have hw5 := HB5.out.lt
            generalize hs2' : ks[b] = s2 at *
            generalize hv2' : l[b]'(by rw [← HE.out.1]; exact hbn) = v0 at *
            clear hs2' hv2'
            have hL9 : ((q.take j).map fun i => ks.getD i []).length ≤ 1000000 := by rw [List.length_map, List.length_take]; have := HNN.out; omega
            have hL8 : ((q.take j).map fun i => l.getD i V0).length ≤ 1000000 := by rw [List.length_map, List.length_take]; have := HNN.out; omega
            have HC := Lib.hid (And.intro (fun (W : World) (x : Array Value) => copy_any v0 htot W x) hv1)
            have HX := Lib.hid (And.intro hqb (And.intro hs2 (And.intro hv2 hcell)))
            have HG := Lib.hid (And.intro hV (And.intro hR (And.intro hbw (And.intro hbx (And.intro k1 (And.intro hL9 (And.intro hL8 (And.intro hw5 (And.intro hkz hlz)))))))))
            have HA6 := Lib.hid (And.intro a0 (And.intro a1 (And.intro a2 (And.intro a3 (And.intro a4 a5)))))
            clear hqb hs2 hv2 hcell hV hR hbw hbx k1 hL9 hL8 hw5 a0 a1 a2 a3 a4 a5 hv1 htot k0 HJ hkz hlz
            go_wp2
            by_cases hj0 : j = 0
            · have hgt : ∀ W : World, (binOp .gtr 3 (.int .i64 (j : Int)) (.int .i64 0)).run Tryz.prog W = .ok (.bool false) W := by
                intro W; simp [go_sem, hj0]
              refine plain_region_draws (fun _ => True) (by kernel_rfl) trivial (fun _ => ?_)
              refine take 0 41 (v := .int .i64 (j : Int)) rfl rfl (by kernel_rfl) (by kernel_rfl) (by kernel_rfl) rfl (fun W hW => exec_move rfl rfl) trivial ?_
              simp only [Act.put, List.setIfInBounds_toArray, List.set_cons_zero, List.set_cons_succ]
              refine take 1 42 (v := .bool false) rfl rfl (by kernel_rfl) (by kernel_rfl) (by kernel_rfl) rfl (fun W hW => exec_bini rfl rfl rfl (hgt W)) trivial ?_
              simp only [Act.put, List.setIfInBounds_toArray, List.set_cons_zero, List.set_cons_succ]
              refine take 2 43 (v := .bool false) rfl rfl (by kernel_rfl) (by kernel_rfl) (by kernel_rfl) rfl (fun W hW => exec_move rfl rfl) trivial ?_
              simp only [Act.put, List.setIfInBounds_toArray, List.set_cons_zero, List.set_cons_succ]
              refine takeNot 3 44 rfl rfl (by kernel_rfl) (by kernel_rfl) (by kernel_rfl) rfl trivial ?_
              simp only [Act.put, List.setIfInBounds_toArray, List.set_cons_zero, List.set_cons_succ]
              refine takeNot 4 45 rfl rfl (by kernel_rfl) (by kernel_rfl) (by kernel_rfl) rfl trivial ?_
              simp only [Act.put, List.setIfInBounds_toArray, List.set_cons_zero, List.set_cons_succ]
              refine takeNot 5 46 rfl rfl (by kernel_rfl) (by kernel_rfl) (by kernel_rfl) rfl trivial ?_
              simp only [Act.put, List.setIfInBounds_toArray, List.set_cons_zero, List.set_cons_succ]
              refine takeNot 6 47 rfl rfl (by kernel_rfl) (by kernel_rfl) (by kernel_rfl) rfl trivial ?_
              simp only [Act.put, List.setIfInBounds_toArray, List.set_cons_zero, List.set_cons_succ]
              refine takeNot 7 48 rfl rfl (by kernel_rfl) (by kernel_rfl) (by kernel_rfl) rfl trivial ?_
              simp only [Act.put, List.setIfInBounds_toArray, List.set_cons_zero, List.set_cons_succ]
              refine takeNot 8 49 rfl rfl (by kernel_rfl) (by kernel_rfl) (by kernel_rfl) rfl trivial ?_
              simp only [Act.put, List.setIfInBounds_toArray, List.set_cons_zero, List.set_cons_succ]
              refine takeNot 9 50 rfl rfl (by kernel_rfl) (by kernel_rfl) (by kernel_rfl) rfl trivial ?_
              simp only [Act.put, List.setIfInBounds_toArray, List.set_cons_zero, List.set_cons_succ]
              refine takeNot 10 51 rfl rfl (by kernel_rfl) (by kernel_rfl) (by kernel_rfl) rfl trivial ?_
              simp only [Act.put, List.setIfInBounds_toArray, List.set_cons_zero, List.set_cons_succ]
              refine takeNot 11 52 rfl rfl (by kernel_rfl) (by kernel_rfl) (by kernel_rfl) rfl trivial ?_
              simp only [Act.put, List.setIfInBounds_toArray, List.set_cons_zero, List.set_cons_succ]
              refine takeNot 12 53 rfl rfl (by kernel_rfl) (by kernel_rfl) (by kernel_rfl) rfl trivial ?_
              simp only [Act.put, List.setIfInBounds_toArray, List.set_cons_zero, List.set_cons_succ]
              refine takeNot 13 54 rfl rfl (by kernel_rfl) (by kernel_rfl) (by kernel_rfl) rfl trivial ?_
              simp only [Act.put, List.setIfInBounds_toArray, List.set_cons_zero, List.set_cons_succ]
              refine takeNot 14 55 rfl rfl (by kernel_rfl) (by kernel_rfl) (by kernel_rfl) rfl trivial ?_
              simp only [Act.put, List.setIfInBounds_toArray, List.set_cons_zero, List.set_cons_succ]
              refine takeNot 15 56 rfl rfl (by kernel_rfl) (by kernel_rfl) (by kernel_rfl) rfl trivial ?_
              simp only [Act.put, List.setIfInBounds_toArray, List.set_cons_zero, List.set_cons_succ]
              refine take 16 57 (v := .bool false) rfl rfl (by kernel_rfl) (by kernel_rfl) (by kernel_rfl) rfl (fun W hW => rfl) trivial ?_
              simp only [Act.put, List.setIfInBounds_toArray, List.set_cons_zero, List.set_cons_succ]
              refine done (by kernel_rfl) ?_ _
              go_wp2
              obtain ⟨hV, hR, hbw, hbx, k1, hL9, hL8, hw5, hkz, hlz⟩ := HG.out
              have hbd : Below wr.heap.size wr wr.drew.drew := ((Below.refl _ _).drew).drew
              have hV0 := hV.keep hbd
              have hU0 : M16 w.heap.size bk ok ks.length ck w5.heap.size b #[.int .i64 5, .bool false, .int .i64 0, .string ⟨#[]⟩, .slice pk' nk' ck', .slice pl' nl' cl'] s2 wr.drew.drew := ⟨hbx, hV0.box, k1⟩
              refine plain_region_draws (fun W => M16 w.heap.size bk ok ks.length ck w5.heap.size b #[.int .i64 5, .bool false, .int .i64 0, .string ⟨#[]⟩, .slice pk' nk' ck', .slice pl' nl' cl'] s2 W) (by kernel_rfl) hU0 (fun hU0 => ?_)
              generalize wr.drew.drew = W0 at *
              have hlt5 := hV0.lt
              have hbs : (Instr.buildSlice 23 1 #[(0, .string (strB s2))]).run Tryz.prog W0 = .ok (.slice (some ⟨W0.heap.size, 0, none⟩) 1 1) (W0.alloc (.cells #[.string (strB s2)] 9)) := by simp [go_sem]
              obtain ⟨p4, n4, c4, W4, ha4, hb4, hc4, hf4, hV4⟩ := MapV.key hV0 s2 hL9 23
              have hU1 := hU0.keep (below_new (.cells #[.string (strB s2)] 9)) (by omega) (by omega) (by omega)
              have hU2 := hU0.keep hb4 (by omega) (by omega) (by omega)
              have hst4 := put_keys (p := p4) (n := n4) (c := c4) hc4 hf4
              refine take 0 59 (v := .pointer (some ⟨w5.heap.size, 4, none⟩)) rfl rfl (by kernel_rfl) (by kernel_rfl) (by kernel_rfl) rfl (fun W hW => exec_fieldAddr rfl rfl (fa_value _ _ (by decide) W)) (by assumption) ?_
              simp only [Act.put, List.setIfInBounds_toArray, List.set_cons_zero, List.set_cons_succ]
              refine take 1 60 (v := .slice pk' nk' ck') rfl rfl (by kernel_rfl) (by kernel_rfl) (by kernel_rfl) rfl (fun W hW => exec_load rfl rfl (run_load1 (w := W) Tryz.underlying23 rfl (cellOf hW.val rfl))) (by assumption) ?_
              simp only [Act.put, List.setIfInBounds_toArray, List.set_cons_zero, List.set_cons_succ]
              refine take 2 61 (v := .slice (some ⟨bk, ok, none⟩) ks.length ck) rfl rfl (by kernel_rfl) (by kernel_rfl) (by kernel_rfl) rfl (fun W hW => exec_load rfl rfl (run_load1 (w := W) Tryz.underlying23 rfl (cellOf hW.box rfl))) (by assumption) ?_
              simp only [Act.put, List.setIfInBounds_toArray, List.set_cons_zero, List.set_cons_succ]
              refine take 3 62 (v := .int .i64 (b : Int)) rfl rfl (by kernel_rfl) (by kernel_rfl) (by kernel_rfl) rfl (fun W hW => exec_move rfl rfl) (by assumption) ?_
              simp only [Act.put, List.setIfInBounds_toArray, List.set_cons_zero, List.set_cons_succ]
              refine take 4 63 (v := .pointer (some ⟨bk, ok + b, none⟩)) rfl rfl (by kernel_rfl) (by kernel_rfl) (by kernel_rfl) rfl (fun W hW => exec_indexAddr rfl rfl rfl (ia_keys _ _ _ _ _ hbn W)) (by assumption) ?_
              simp only [Act.put, List.setIfInBounds_toArray, List.set_cons_zero, List.set_cons_succ]
              refine take 5 64 (v := .string (strB s2)) rfl rfl (by kernel_rfl) (by kernel_rfl) (by kernel_rfl) rfl (fun W hW => exec_load rfl rfl (run_load1 (w := W) Tryz.underlying9 rfl hW.two)) (by assumption) ?_
              simp only [Act.put, List.setIfInBounds_toArray, List.set_cons_zero, List.set_cons_succ]
              refine onlyRun 6 65 (v := .slice (some ⟨W0.heap.size, 0, none⟩) 1 1) rfl rfl (by kernel_rfl) rfl (exec_buildSlice1 rfl rfl hbs) (.inr hU1) ?_
              simp only [Act.put, List.setIfInBounds_toArray, List.set_cons_zero, List.set_cons_succ]
              refine onlyRun 7 66 (v := .slice p4 n4 c4) rfl rfl (by kernel_rfl) rfl (exec_append rfl rfl rfl ha4) (.inr hU2) ?_
              simp only [Act.put, List.setIfInBounds_toArray, List.set_cons_zero, List.set_cons_succ]
              refine take 8 67 (v := .pointer (some ⟨w5.heap.size, 4, none⟩)) rfl rfl (by kernel_rfl) (by kernel_rfl) (by kernel_rfl) rfl (fun W hW => exec_fieldAddr rfl rfl (fa_value _ _ (by decide) W)) (by assumption) ?_
              simp only [Act.put, List.setIfInBounds_toArray, List.set_cons_zero, List.set_cons_succ]
              refine onlySkip 9 rfl rfl (by kernel_rfl) rfl (exec_store rfl rfl rfl hst4) (.inl (by kernel_rfl)) ?_
              refine done (by kernel_rfl) ?_ _
              clear hU0 hU1 hU2 hbs ha4 hst4 hb4 hc4 hf4
              generalize W4.setCell ⟨w5.heap.size, 4, none⟩ (.slice p4 n4 c4) = W5 at *
              go_wp2
              have hV3 := hV4.keep ((Below.refl _ _).drew)
              have hb3 : Below w.heap.size w W5.drew := HB5.out.below.trans (hV3.below.mono HB5.out.below.size)
              have hU0 : M17 w5.heap.size bl (ol + b * 6) #[.int .i64 5, .bool false, .int .i64 0, .string ⟨#[]⟩, .slice p4 n4 c4, .slice pl' nl' cl'] (.int .i64 v0.kind) (.bool v0.b) (.int .i64 v0.n) (.string (strB v0.text)) (.slice pk1 v0.keys.length ck1) (.slice pl1 v0.list.length cl1) W5.drew := ⟨hV3.box, belowCell hb3 hlz HA6.out.1, belowCell hb3 hlz HA6.out.2.1, belowCell hb3 hlz HA6.out.2.2.1, belowCell hb3 hlz HA6.out.2.2.2.1, belowCell hb3 hlz HA6.out.2.2.2.2.1, belowCell hb3 hlz HA6.out.2.2.2.2.2⟩
              refine plain_region_draws (fun W => M17 w5.heap.size bl (ol + b * 6) #[.int .i64 5, .bool false, .int .i64 0, .string ⟨#[]⟩, .slice p4 n4 c4, .slice pl' nl' cl'] (.int .i64 v0.kind) (.bool v0.b) (.int .i64 v0.n) (.string (strB v0.text)) (.slice pk1 v0.keys.length ck1) (.slice pl1 v0.list.length cl1) W) (by kernel_rfl) hU0 (fun hU0 => ?_)
              generalize W5.drew = W6 at *
              refine take 0 68 (v := .pointer (some ⟨w5.heap.size, 5, none⟩)) rfl rfl (by kernel_rfl) (by kernel_rfl) (by kernel_rfl) rfl (fun W hW => exec_fieldAddr rfl rfl (fa_value _ _ (by decide) W)) (by assumption) ?_
              simp only [Act.put, List.setIfInBounds_toArray, List.set_cons_zero, List.set_cons_succ]
              refine take 1 69 (v := .slice pl' nl' cl') rfl rfl (by kernel_rfl) (by kernel_rfl) (by kernel_rfl) rfl (fun W hW => exec_load rfl rfl (run_load1 (w := W) Tryz.underlying24 rfl (cellOf hW.val rfl))) (by assumption) ?_
              simp only [Act.put, List.setIfInBounds_toArray, List.set_cons_zero, List.set_cons_succ]
              refine take 2 70 (v := .slice (some ⟨bl, ol, none⟩) ks.length cl) rfl rfl (by kernel_rfl) (by kernel_rfl) (by kernel_rfl) rfl (fun W hW => exec_move rfl rfl) (by assumption) ?_
              simp only [Act.put, List.setIfInBounds_toArray, List.set_cons_zero, List.set_cons_succ]
              refine take 3 71 (v := .int .i64 (b : Int)) rfl rfl (by kernel_rfl) (by kernel_rfl) (by kernel_rfl) rfl (fun W hW => exec_move rfl rfl) (by assumption) ?_
              simp only [Act.put, List.setIfInBounds_toArray, List.set_cons_zero, List.set_cons_succ]
              refine take 4 72 (v := .pointer (some ⟨bl, ol + b * 6, none⟩)) rfl rfl (by kernel_rfl) (by kernel_rfl) (by kernel_rfl) rfl (fun W hW => exec_indexAddr rfl rfl rfl (ia_vals _ _ _ _ _ hbn W)) (by assumption) ?_
              simp only [Act.put, List.setIfInBounds_toArray, List.set_cons_zero, List.set_cons_succ]
              refine take 5 73 (v := .agg #[.int .i64 v0.kind, .bool v0.b, .int .i64 v0.n, .string (strB v0.text), .slice pk1 v0.keys.length ck1, .slice pl1 v0.list.length cl1]) rfl rfl (by kernel_rfl) (by kernel_rfl) (by kernel_rfl) rfl (fun W hW => exec_load rfl rfl (get_six hW.c0 hW.c1 hW.c2 hW.c3 hW.c4 hW.c5)) (by assumption) ?_
              simp only [Act.put, List.setIfInBounds_toArray, List.set_cons_zero, List.set_cons_succ]
              refine onlyCall 6 74 rfl rfl (by kernel_rfl) rfl (exec_call [.agg #[.int .i64 v0.kind, .bool v0.b, .int .i64 v0.n, .string (strB v0.text), .slice pk1 v0.keys.length ck1, .slice pl1 v0.list.length cl1]] rfl rfl Tryz.func51 (by kernel_rfl) (by kernel_rfl)) ?_
              refine (HC.out.1 _ _ (HC.out.2.below hb3)).mono ?_
              rintro e w8 ⟨x8, rfl, hx8, hb8⟩
              obtain ⟨vk0, vl0, rfl, _⟩ := hx8.open
              obtain ⟨p9, n9, c9, W9, ha9, hb9, hc9, hf9, hV9⟩ := MapV.val hV3 hb8 hx8 hL8 24
              have hU8 := hU0.keep hb8 (Array.getElem?_eq_some_iff.1 hU0.val).1 (ltOf hU0.c0)
              have hU9 := hU8.keep (below_new (.cells #[.int .i64 v0.kind, .bool v0.b, .int .i64 v0.n, .string (strB v0.text), vk0, vl0] 26)) (Array.getElem?_eq_some_iff.1 hU8.val).1 (ltOf hU8.c0)
              have hU10 := hU0.keep hb9 (Nat.lt_succ_self _) (by omega)
              have hst9 := put_vals (p := p9) (n := n9) (c := c9) hc9 hf9
              have hbs9 : (Instr.buildSlice 24 1 #[(0, .agg #[.int .i64 v0.kind, .bool v0.b, .int .i64 v0.n, .string (strB v0.text), vk0, vl0])]).run Tryz.prog w8 = .ok (.slice (some ⟨w8.heap.size, 0, none⟩) 1 1) (w8.alloc (.cells #[.int .i64 v0.kind, .bool v0.b, .int .i64 v0.n, .string (strB v0.text), vk0, vl0] 26)) := build_val w8 hx8
              refine ⟨_, rfl, .inr hU8, ?_⟩
              simp only [Act.put, List.setIfInBounds_toArray, List.set_cons_zero, List.set_cons_succ]
              refine onlyRun 7 75 (v := .slice (some ⟨w8.heap.size, 0, none⟩) 1 1) rfl rfl (by kernel_rfl) rfl (exec_buildSlice1 rfl rfl hbs9) (.inr hU9) ?_
              simp only [Act.put, List.setIfInBounds_toArray, List.set_cons_zero, List.set_cons_succ]
              refine onlyRun 8 76 (v := .slice p9 n9 c9) rfl rfl (by kernel_rfl) rfl (exec_append rfl rfl rfl ha9) (.inr hU10) ?_
              simp only [Act.put, List.setIfInBounds_toArray, List.set_cons_zero, List.set_cons_succ]
              refine take 9 77 (v := .pointer (some ⟨w5.heap.size, 5, none⟩)) rfl rfl (by kernel_rfl) (by kernel_rfl) (by kernel_rfl) rfl (fun W hW => exec_fieldAddr rfl rfl (fa_value _ _ (by decide) W)) (by assumption) ?_
              simp only [Act.put, List.setIfInBounds_toArray, List.set_cons_zero, List.set_cons_succ]
              refine onlySkip 10 rfl rfl (by kernel_rfl) rfl (exec_store rfl rfl rfl hst9) (.inl (by kernel_rfl)) ?_
              refine done (by kernel_rfl) ?_ _
              clear hU0 hU8 hU9 hU10 hbs9 ha9 hst9 hb9 hc9 hf9 hb8 hx8 hb3 hV0 hV4
              generalize W9.setCell ⟨w5.heap.size, 5, none⟩ (.slice p9 n9 c9) = W10 at *
              have HE1 := Lib.hid (show MapJ w5 W10 ks l q (j + 1) from ⟨p4, n4, c4, p9, n9, c9, by rw [take_map _ HX.out.1, take_map _ HX.out.1, HX.out.2.1, HX.out.2.2.1]; exact hV9, by rw [hj0, take_map _ (hj0 ▸ HX.out.1)]; rfl⟩)
              clear hV hR hbw hbx k1 hL9 hL8 hw5 hkz hlz hV3 hV9 hbd hlt5
              go_wp2
              go_roundw
              case rel => exact ⟨j + 1, hlt1, by go_num, HE1⟩
              case measure => simp [intOf]; omega
            · obtain ⟨m, hm⟩ : ∃ m, j = m + 1 := ⟨j - 1, by omega⟩
              have hmj : m < ks.length := by omega
              obtain ⟨a, hqa, han, hca⟩ := HQ.out.get hmj
              obtain ⟨bk', ok', hp', ka, _⟩ := HK.out.get han
              cases hp'
              have ka1 := belowCell HG.out.2.2.1 HG.out.2.2.2.2.2.2.2.2.1 ka
              have hs1 : ks.getD a [] = ks[a] := by simp [List.getD, han]
              generalize ks[a] = s1 at *
              have hca1 := hca wr HG.out.1.below
              have hgt : ∀ W : World, (binOp .gtr 3 (.int .i64 (j : Int)) (.int .i64 0)).run Tryz.prog W = .ok (.bool true) W := by
                intro W; simp [go_sem]; omega
              have hsub : ∀ W : World, (binOp .sub 3 (.int .i64 (j : Int)) (.int .i64 1)).run Tryz.prog W = .ok (.int .i64 (m : Int)) W := by
                intro W
                have e : IntKind.i64.wrap ((j : Int) - 1) = m := by simp [IntKind.wrap, IntKind.signed, IntKind.bits]; omega
                simp [go_sem, e]
              have hU14 : M14 w.heap.size bk ok ks.length ck (w.heap.size + 2) m a b s1 s2 wr.drew := ⟨HG.out.2.2.2.1, hca1, ka1, HG.out.2.2.2.2.1⟩
              have HO := Lib.hid (And.intro hqa hs1)
              clear hqa hs1 hca hca1 ka ka1
              by_cases hss : s1 = s2
              · have heq : ∀ W : World, (binOp .eql 9 (.string (strB s1)) (.string (strB s2))).run Tryz.prog W = .ok (.bool true) W := by
                  intro W; simp [go_sem, hss]
                refine plain_region_draws (fun W => M14 w.heap.size bk ok ks.length ck (w.heap.size + 2) m a b s1 s2 W) (by kernel_rfl) hU14 (fun hU14 => ?_)
                refine take 0 41 (v := .int .i64 (j : Int)) rfl rfl (by kernel_rfl) (by kernel_rfl) (by kernel_rfl) rfl (fun W hW => exec_move rfl rfl) (by assumption) ?_
                simp only [Act.put, List.setIfInBounds_toArray, List.set_cons_zero, List.set_cons_succ]
                refine take 1 42 (v := .bool true) rfl rfl (by kernel_rfl) (by kernel_rfl) (by kernel_rfl) rfl (fun W hW => exec_bini rfl rfl rfl (hgt W)) (by assumption) ?_
                simp only [Act.put, List.setIfInBounds_toArray, List.set_cons_zero, List.set_cons_succ]
                refine take 2 43 (v := .bool true) rfl rfl (by kernel_rfl) (by kernel_rfl) (by kernel_rfl) rfl (fun W hW => exec_move rfl rfl) (by assumption) ?_
                simp only [Act.put, List.setIfInBounds_toArray, List.set_cons_zero, List.set_cons_succ]
                refine take 3 44 (v := .slice (some ⟨bk, ok, none⟩) ks.length ck) rfl rfl (by kernel_rfl) (by kernel_rfl) (by kernel_rfl) rfl (fun W hW => exec_load rfl rfl (run_load1 (w := W) Tryz.underlying23 rfl (cellOf hW.box rfl))) (by assumption) ?_
                simp only [Act.put, List.setIfInBounds_toArray, List.set_cons_zero, List.set_cons_succ]
                refine take 4 45 (v := .slice (some ⟨w.heap.size + 2, 0, none⟩) ks.length ks.length) rfl rfl (by kernel_rfl) (by kernel_rfl) (by kernel_rfl) rfl (fun W hW => exec_move rfl rfl) (by assumption) ?_
                simp only [Act.put, List.setIfInBounds_toArray, List.set_cons_zero, List.set_cons_succ]
                refine take 5 46 (v := .int .i64 (j : Int)) rfl rfl (by kernel_rfl) (by kernel_rfl) (by kernel_rfl) rfl (fun W hW => exec_move rfl rfl) (by assumption) ?_
                simp only [Act.put, List.setIfInBounds_toArray, List.set_cons_zero, List.set_cons_succ]
                refine take 6 47 (v := .int .i64 (m : Int)) rfl rfl (by kernel_rfl) (by kernel_rfl) (by kernel_rfl) rfl (fun W hW => exec_bini rfl rfl rfl (hsub W)) (by assumption) ?_
                simp only [Act.put, List.setIfInBounds_toArray, List.set_cons_zero, List.set_cons_succ]
                refine take 7 48 (v := .pointer (some ⟨w.heap.size + 2, m, none⟩)) rfl rfl (by kernel_rfl) (by kernel_rfl) (by kernel_rfl) rfl (fun W hW => exec_indexAddr rfl rfl rfl (ia_ints0 _ _ _ _ hmj W)) (by assumption) ?_
                simp only [Act.put, List.setIfInBounds_toArray, List.set_cons_zero, List.set_cons_succ]
                refine take 8 49 (v := .int .i64 (a : Int)) rfl rfl (by kernel_rfl) (by kernel_rfl) (by kernel_rfl) rfl (fun W hW => exec_load rfl rfl (run_load1 (w := W) Tryz.underlying3 rfl hW.ix)) (by assumption) ?_
                simp only [Act.put, List.setIfInBounds_toArray, List.set_cons_zero, List.set_cons_succ]
                refine take 9 50 (v := .pointer (some ⟨bk, ok + a, none⟩)) rfl rfl (by kernel_rfl) (by kernel_rfl) (by kernel_rfl) rfl (fun W hW => exec_indexAddr rfl rfl rfl (ia_keys _ _ _ _ _ han W)) (by assumption) ?_
                simp only [Act.put, List.setIfInBounds_toArray, List.set_cons_zero, List.set_cons_succ]
                refine take 10 51 (v := .string (strB s1)) rfl rfl (by kernel_rfl) (by kernel_rfl) (by kernel_rfl) rfl (fun W hW => exec_load rfl rfl (run_load1 (w := W) Tryz.underlying9 rfl hW.one)) (by assumption) ?_
                simp only [Act.put, List.setIfInBounds_toArray, List.set_cons_zero, List.set_cons_succ]
                refine take 11 52 (v := .slice (some ⟨bk, ok, none⟩) ks.length ck) rfl rfl (by kernel_rfl) (by kernel_rfl) (by kernel_rfl) rfl (fun W hW => exec_load rfl rfl (run_load1 (w := W) Tryz.underlying23 rfl (cellOf hW.box rfl))) (by assumption) ?_
                simp only [Act.put, List.setIfInBounds_toArray, List.set_cons_zero, List.set_cons_succ]
                refine take 12 53 (v := .int .i64 (b : Int)) rfl rfl (by kernel_rfl) (by kernel_rfl) (by kernel_rfl) rfl (fun W hW => exec_move rfl rfl) (by assumption) ?_
                simp only [Act.put, List.setIfInBounds_toArray, List.set_cons_zero, List.set_cons_succ]
                refine take 13 54 (v := .pointer (some ⟨bk, ok + b, none⟩)) rfl rfl (by kernel_rfl) (by kernel_rfl) (by kernel_rfl) rfl (fun W hW => exec_indexAddr rfl rfl rfl (ia_keys _ _ _ _ _ hbn W)) (by assumption) ?_
                simp only [Act.put, List.setIfInBounds_toArray, List.set_cons_zero, List.set_cons_succ]
                refine take 14 55 (v := .string (strB s2)) rfl rfl (by kernel_rfl) (by kernel_rfl) (by kernel_rfl) rfl (fun W hW => exec_load rfl rfl (run_load1 (w := W) Tryz.underlying9 rfl hW.two)) (by assumption) ?_
                simp only [Act.put, List.setIfInBounds_toArray, List.set_cons_zero, List.set_cons_succ]
                refine take 15 56 (v := .bool true) rfl rfl (by kernel_rfl) (by kernel_rfl) (by kernel_rfl) rfl (fun W hW => exec_bins rfl rfl rfl (heq W)) (by assumption) ?_
                simp only [Act.put, List.setIfInBounds_toArray, List.set_cons_zero, List.set_cons_succ]
                refine take 16 57 (v := .bool true) rfl rfl (by kernel_rfl) (by kernel_rfl) (by kernel_rfl) rfl (fun W hW => rfl) (by assumption) ?_
                simp only [Act.put, List.setIfInBounds_toArray, List.set_cons_zero, List.set_cons_succ]
                refine done (by kernel_rfl) ?_ _
                have hB := HB5.out.keep (B := w5.heap.size) (HG.out.1.below.drew) (by have := HB5.out.lt; omega)
                obtain ⟨W', s1', s2', s3', s4'⟩ := hB.put (own_zero _ _)
                have HS := Lib.hid s1'
                have HL2 := Lib.hid s2'
                have HF := Lib.hid (And.intro s3' s4')
                clear hB s1' s2' s3' s4' hU14
                go_wp2_with (first
                  | (refine wpList_store rfl _ _ _ _ rfl rfl rfl HS.out ?_))
                exact bodyPost_ret (results_cell_tmp rfl _ _ ⟨w.heap.size + 1, 0, none⟩ _ (.int .i64 2) rfl rfl HL2.out) rfl (HA.out 2 _ W' _ HF.out.2 HF.out.1 (.inl ⟨rfl, rfl, not_nodup HQ.out.perm HO.out.1 (by rw [← hm]; exact HX.out.1) (by rw [HO.out.2, HX.out.2.1]; exact hss)⟩))
              · have heq : ∀ W : World, (binOp .eql 9 (.string (strB s1)) (.string (strB s2))).run Tryz.prog W = .ok (.bool false) W := by
                  intro W; simp [go_sem, strB_toList, hss]
                refine plain_region_draws (fun W => M14 w.heap.size bk ok ks.length ck (w.heap.size + 2) m a b s1 s2 W) (by kernel_rfl) hU14 (fun hU14 => ?_)
                refine take 0 41 (v := .int .i64 (j : Int)) rfl rfl (by kernel_rfl) (by kernel_rfl) (by kernel_rfl) rfl (fun W hW => exec_move rfl rfl) (by assumption) ?_
                simp only [Act.put, List.setIfInBounds_toArray, List.set_cons_zero, List.set_cons_succ]
                refine take 1 42 (v := .bool true) rfl rfl (by kernel_rfl) (by kernel_rfl) (by kernel_rfl) rfl (fun W hW => exec_bini rfl rfl rfl (hgt W)) (by assumption) ?_
                simp only [Act.put, List.setIfInBounds_toArray, List.set_cons_zero, List.set_cons_succ]
                refine take 2 43 (v := .bool true) rfl rfl (by kernel_rfl) (by kernel_rfl) (by kernel_rfl) rfl (fun W hW => exec_move rfl rfl) (by assumption) ?_
                simp only [Act.put, List.setIfInBounds_toArray, List.set_cons_zero, List.set_cons_succ]
                refine take 3 44 (v := .slice (some ⟨bk, ok, none⟩) ks.length ck) rfl rfl (by kernel_rfl) (by kernel_rfl) (by kernel_rfl) rfl (fun W hW => exec_load rfl rfl (run_load1 (w := W) Tryz.underlying23 rfl (cellOf hW.box rfl))) (by assumption) ?_
                simp only [Act.put, List.setIfInBounds_toArray, List.set_cons_zero, List.set_cons_succ]
                refine take 4 45 (v := .slice (some ⟨w.heap.size + 2, 0, none⟩) ks.length ks.length) rfl rfl (by kernel_rfl) (by kernel_rfl) (by kernel_rfl) rfl (fun W hW => exec_move rfl rfl) (by assumption) ?_
                simp only [Act.put, List.setIfInBounds_toArray, List.set_cons_zero, List.set_cons_succ]
                refine take 5 46 (v := .int .i64 (j : Int)) rfl rfl (by kernel_rfl) (by kernel_rfl) (by kernel_rfl) rfl (fun W hW => exec_move rfl rfl) (by assumption) ?_
                simp only [Act.put, List.setIfInBounds_toArray, List.set_cons_zero, List.set_cons_succ]
                refine take 6 47 (v := .int .i64 (m : Int)) rfl rfl (by kernel_rfl) (by kernel_rfl) (by kernel_rfl) rfl (fun W hW => exec_bini rfl rfl rfl (hsub W)) (by assumption) ?_
                simp only [Act.put, List.setIfInBounds_toArray, List.set_cons_zero, List.set_cons_succ]
                refine take 7 48 (v := .pointer (some ⟨w.heap.size + 2, m, none⟩)) rfl rfl (by kernel_rfl) (by kernel_rfl) (by kernel_rfl) rfl (fun W hW => exec_indexAddr rfl rfl rfl (ia_ints0 _ _ _ _ hmj W)) (by assumption) ?_
                simp only [Act.put, List.setIfInBounds_toArray, List.set_cons_zero, List.set_cons_succ]
                refine take 8 49 (v := .int .i64 (a : Int)) rfl rfl (by kernel_rfl) (by kernel_rfl) (by kernel_rfl) rfl (fun W hW => exec_load rfl rfl (run_load1 (w := W) Tryz.underlying3 rfl hW.ix)) (by assumption) ?_
                simp only [Act.put, List.setIfInBounds_toArray, List.set_cons_zero, List.set_cons_succ]
                refine take 9 50 (v := .pointer (some ⟨bk, ok + a, none⟩)) rfl rfl (by kernel_rfl) (by kernel_rfl) (by kernel_rfl) rfl (fun W hW => exec_indexAddr rfl rfl rfl (ia_keys _ _ _ _ _ han W)) (by assumption) ?_
                simp only [Act.put, List.setIfInBounds_toArray, List.set_cons_zero, List.set_cons_succ]
                refine take 10 51 (v := .string (strB s1)) rfl rfl (by kernel_rfl) (by kernel_rfl) (by kernel_rfl) rfl (fun W hW => exec_load rfl rfl (run_load1 (w := W) Tryz.underlying9 rfl hW.one)) (by assumption) ?_
                simp only [Act.put, List.setIfInBounds_toArray, List.set_cons_zero, List.set_cons_succ]
                refine take 11 52 (v := .slice (some ⟨bk, ok, none⟩) ks.length ck) rfl rfl (by kernel_rfl) (by kernel_rfl) (by kernel_rfl) rfl (fun W hW => exec_load rfl rfl (run_load1 (w := W) Tryz.underlying23 rfl (cellOf hW.box rfl))) (by assumption) ?_
                simp only [Act.put, List.setIfInBounds_toArray, List.set_cons_zero, List.set_cons_succ]
                refine take 12 53 (v := .int .i64 (b : Int)) rfl rfl (by kernel_rfl) (by kernel_rfl) (by kernel_rfl) rfl (fun W hW => exec_move rfl rfl) (by assumption) ?_
                simp only [Act.put, List.setIfInBounds_toArray, List.set_cons_zero, List.set_cons_succ]
                refine take 13 54 (v := .pointer (some ⟨bk, ok + b, none⟩)) rfl rfl (by kernel_rfl) (by kernel_rfl) (by kernel_rfl) rfl (fun W hW => exec_indexAddr rfl rfl rfl (ia_keys _ _ _ _ _ hbn W)) (by assumption) ?_
                simp only [Act.put, List.setIfInBounds_toArray, List.set_cons_zero, List.set_cons_succ]
                refine take 14 55 (v := .string (strB s2)) rfl rfl (by kernel_rfl) (by kernel_rfl) (by kernel_rfl) rfl (fun W hW => exec_load rfl rfl (run_load1 (w := W) Tryz.underlying9 rfl hW.two)) (by assumption) ?_
                simp only [Act.put, List.setIfInBounds_toArray, List.set_cons_zero, List.set_cons_succ]
                refine take 15 56 (v := .bool false) rfl rfl (by kernel_rfl) (by kernel_rfl) (by kernel_rfl) rfl (fun W hW => exec_bins rfl rfl rfl (heq W)) (by assumption) ?_
                simp only [Act.put, List.setIfInBounds_toArray, List.set_cons_zero, List.set_cons_succ]
                refine take 16 57 (v := .bool false) rfl rfl (by kernel_rfl) (by kernel_rfl) (by kernel_rfl) rfl (fun W hW => rfl) (by assumption) ?_
                simp only [Act.put, List.setIfInBounds_toArray, List.set_cons_zero, List.set_cons_succ]
                refine done (by kernel_rfl) ?_ _
                have hq1 : q[m + 1]? = some b := by rw [← hm]; exact HX.out.1
                have hrise := rise_step (f := fun i => ks.getD i []) HO.out.1 hq1 (HQ.out.le HO.out.1 hq1) (by show ks.getD a [] ≠ ks.getD b []; rw [HO.out.2, HX.out.2.1]; exact hss) (by rw [← hm]; exact HG.out.2.1)
                rw [show m + 2 = j + 1 by omega] at hrise
                have HRI := Lib.hid hrise
                clear hU14 hq1 hrise
                go_wp2
                obtain ⟨hV, hR, hbw, hbx, k1, hL9, hL8, hw5, hkz, hlz⟩ := HG.out
                have hbd : Below wr.heap.size wr wr.drew.drew := ((Below.refl _ _).drew).drew
                have hV0 := hV.keep hbd
                have hU0 : M16 w.heap.size bk ok ks.length ck w5.heap.size b #[.int .i64 5, .bool false, .int .i64 0, .string ⟨#[]⟩, .slice pk' nk' ck', .slice pl' nl' cl'] s2 wr.drew.drew := ⟨hbx, hV0.box, k1⟩
                refine plain_region_draws (fun W => M16 w.heap.size bk ok ks.length ck w5.heap.size b #[.int .i64 5, .bool false, .int .i64 0, .string ⟨#[]⟩, .slice pk' nk' ck', .slice pl' nl' cl'] s2 W) (by kernel_rfl) hU0 (fun hU0 => ?_)
                generalize wr.drew.drew = W0 at *
                have hlt5 := hV0.lt
                have hbs : (Instr.buildSlice 23 1 #[(0, .string (strB s2))]).run Tryz.prog W0 = .ok (.slice (some ⟨W0.heap.size, 0, none⟩) 1 1) (W0.alloc (.cells #[.string (strB s2)] 9)) := by simp [go_sem]
                obtain ⟨p4, n4, c4, W4, ha4, hb4, hc4, hf4, hV4⟩ := MapV.key hV0 s2 hL9 23
                have hU1 := hU0.keep (below_new (.cells #[.string (strB s2)] 9)) (by omega) (by omega) (by omega)
                have hU2 := hU0.keep hb4 (by omega) (by omega) (by omega)
                have hst4 := put_keys (p := p4) (n := n4) (c := c4) hc4 hf4
                refine take 0 59 (v := .pointer (some ⟨w5.heap.size, 4, none⟩)) rfl rfl (by kernel_rfl) (by kernel_rfl) (by kernel_rfl) rfl (fun W hW => exec_fieldAddr rfl rfl (fa_value _ _ (by decide) W)) (by assumption) ?_
                simp only [Act.put, List.setIfInBounds_toArray, List.set_cons_zero, List.set_cons_succ]
                refine take 1 60 (v := .slice pk' nk' ck') rfl rfl (by kernel_rfl) (by kernel_rfl) (by kernel_rfl) rfl (fun W hW => exec_load rfl rfl (run_load1 (w := W) Tryz.underlying23 rfl (cellOf hW.val rfl))) (by assumption) ?_
                simp only [Act.put, List.setIfInBounds_toArray, List.set_cons_zero, List.set_cons_succ]
                refine take 2 61 (v := .slice (some ⟨bk, ok, none⟩) ks.length ck) rfl rfl (by kernel_rfl) (by kernel_rfl) (by kernel_rfl) rfl (fun W hW => exec_load rfl rfl (run_load1 (w := W) Tryz.underlying23 rfl (cellOf hW.box rfl))) (by assumption) ?_
                simp only [Act.put, List.setIfInBounds_toArray, List.set_cons_zero, List.set_cons_succ]
                refine take 3 62 (v := .int .i64 (b : Int)) rfl rfl (by kernel_rfl) (by kernel_rfl) (by kernel_rfl) rfl (fun W hW => exec_move rfl rfl) (by assumption) ?_
                simp only [Act.put, List.setIfInBounds_toArray, List.set_cons_zero, List.set_cons_succ]
                refine take 4 63 (v := .pointer (some ⟨bk, ok + b, none⟩)) rfl rfl (by kernel_rfl) (by kernel_rfl) (by kernel_rfl) rfl (fun W hW => exec_indexAddr rfl rfl rfl (ia_keys _ _ _ _ _ hbn W)) (by assumption) ?_
                simp only [Act.put, List.setIfInBounds_toArray, List.set_cons_zero, List.set_cons_succ]
                refine take 5 64 (v := .string (strB s2)) rfl rfl (by kernel_rfl) (by kernel_rfl) (by kernel_rfl) rfl (fun W hW => exec_load rfl rfl (run_load1 (w := W) Tryz.underlying9 rfl hW.two)) (by assumption) ?_
                simp only [Act.put, List.setIfInBounds_toArray, List.set_cons_zero, List.set_cons_succ]
                refine onlyRun 6 65 (v := .slice (some ⟨W0.heap.size, 0, none⟩) 1 1) rfl rfl (by kernel_rfl) rfl (exec_buildSlice1 rfl rfl hbs) (.inr hU1) ?_
                simp only [Act.put, List.setIfInBounds_toArray, List.set_cons_zero, List.set_cons_succ]
                refine onlyRun 7 66 (v := .slice p4 n4 c4) rfl rfl (by kernel_rfl) rfl (exec_append rfl rfl rfl ha4) (.inr hU2) ?_
                simp only [Act.put, List.setIfInBounds_toArray, List.set_cons_zero, List.set_cons_succ]
                refine take 8 67 (v := .pointer (some ⟨w5.heap.size, 4, none⟩)) rfl rfl (by kernel_rfl) (by kernel_rfl) (by kernel_rfl) rfl (fun W hW => exec_fieldAddr rfl rfl (fa_value _ _ (by decide) W)) (by assumption) ?_
                simp only [Act.put, List.setIfInBounds_toArray, List.set_cons_zero, List.set_cons_succ]
                refine onlySkip 9 rfl rfl (by kernel_rfl) rfl (exec_store rfl rfl rfl hst4) (.inl (by kernel_rfl)) ?_
                refine done (by kernel_rfl) ?_ _
                clear hU0 hU1 hU2 hbs ha4 hst4 hb4 hc4 hf4
                generalize W4.setCell ⟨w5.heap.size, 4, none⟩ (.slice p4 n4 c4) = W5 at *
                go_wp2
                have hV3 := hV4.keep ((Below.refl _ _).drew)
                have hb3 : Below w.heap.size w W5.drew := HB5.out.below.trans (hV3.below.mono HB5.out.below.size)
                have hU0 : M17 w5.heap.size bl (ol + b * 6) #[.int .i64 5, .bool false, .int .i64 0, .string ⟨#[]⟩, .slice p4 n4 c4, .slice pl' nl' cl'] (.int .i64 v0.kind) (.bool v0.b) (.int .i64 v0.n) (.string (strB v0.text)) (.slice pk1 v0.keys.length ck1) (.slice pl1 v0.list.length cl1) W5.drew := ⟨hV3.box, belowCell hb3 hlz HA6.out.1, belowCell hb3 hlz HA6.out.2.1, belowCell hb3 hlz HA6.out.2.2.1, belowCell hb3 hlz HA6.out.2.2.2.1, belowCell hb3 hlz HA6.out.2.2.2.2.1, belowCell hb3 hlz HA6.out.2.2.2.2.2⟩
                refine plain_region_draws (fun W => M17 w5.heap.size bl (ol + b * 6) #[.int .i64 5, .bool false, .int .i64 0, .string ⟨#[]⟩, .slice p4 n4 c4, .slice pl' nl' cl'] (.int .i64 v0.kind) (.bool v0.b) (.int .i64 v0.n) (.string (strB v0.text)) (.slice pk1 v0.keys.length ck1) (.slice pl1 v0.list.length cl1) W) (by kernel_rfl) hU0 (fun hU0 => ?_)
                generalize W5.drew = W6 at *
                refine take 0 68 (v := .pointer (some ⟨w5.heap.size, 5, none⟩)) rfl rfl (by kernel_rfl) (by kernel_rfl) (by kernel_rfl) rfl (fun W hW => exec_fieldAddr rfl rfl (fa_value _ _ (by decide) W)) (by assumption) ?_
                simp only [Act.put, List.setIfInBounds_toArray, List.set_cons_zero, List.set_cons_succ]
                refine take 1 69 (v := .slice pl' nl' cl') rfl rfl (by kernel_rfl) (by kernel_rfl) (by kernel_rfl) rfl (fun W hW => exec_load rfl rfl (run_load1 (w := W) Tryz.underlying24 rfl (cellOf hW.val rfl))) (by assumption) ?_
                simp only [Act.put, List.setIfInBounds_toArray, List.set_cons_zero, List.set_cons_succ]
                refine take 2 70 (v := .slice (some ⟨bl, ol, none⟩) ks.length cl) rfl rfl (by kernel_rfl) (by kernel_rfl) (by kernel_rfl) rfl (fun W hW => exec_move rfl rfl) (by assumption) ?_
                simp only [Act.put, List.setIfInBounds_toArray, List.set_cons_zero, List.set_cons_succ]
                refine take 3 71 (v := .int .i64 (b : Int)) rfl rfl (by kernel_rfl) (by kernel_rfl) (by kernel_rfl) rfl (fun W hW => exec_move rfl rfl) (by assumption) ?_
                simp only [Act.put, List.setIfInBounds_toArray, List.set_cons_zero, List.set_cons_succ]
                refine take 4 72 (v := .pointer (some ⟨bl, ol + b * 6, none⟩)) rfl rfl (by kernel_rfl) (by kernel_rfl) (by kernel_rfl) rfl (fun W hW => exec_indexAddr rfl rfl rfl (ia_vals _ _ _ _ _ hbn W)) (by assumption) ?_
                simp only [Act.put, List.setIfInBounds_toArray, List.set_cons_zero, List.set_cons_succ]
                refine take 5 73 (v := .agg #[.int .i64 v0.kind, .bool v0.b, .int .i64 v0.n, .string (strB v0.text), .slice pk1 v0.keys.length ck1, .slice pl1 v0.list.length cl1]) rfl rfl (by kernel_rfl) (by kernel_rfl) (by kernel_rfl) rfl (fun W hW => exec_load rfl rfl (get_six hW.c0 hW.c1 hW.c2 hW.c3 hW.c4 hW.c5)) (by assumption) ?_
                simp only [Act.put, List.setIfInBounds_toArray, List.set_cons_zero, List.set_cons_succ]
                refine onlyCall 6 74 rfl rfl (by kernel_rfl) rfl (exec_call [.agg #[.int .i64 v0.kind, .bool v0.b, .int .i64 v0.n, .string (strB v0.text), .slice pk1 v0.keys.length ck1, .slice pl1 v0.list.length cl1]] rfl rfl Tryz.func51 (by kernel_rfl) (by kernel_rfl)) ?_
                refine (HC.out.1 _ _ (HC.out.2.below hb3)).mono ?_
                rintro e w8 ⟨x8, rfl, hx8, hb8⟩
                obtain ⟨vk0, vl0, rfl, _⟩ := hx8.open
                obtain ⟨p9, n9, c9, W9, ha9, hb9, hc9, hf9, hV9⟩ := MapV.val hV3 hb8 hx8 hL8 24
                have hU8 := hU0.keep hb8 (Array.getElem?_eq_some_iff.1 hU0.val).1 (ltOf hU0.c0)
                have hU9 := hU8.keep (below_new (.cells #[.int .i64 v0.kind, .bool v0.b, .int .i64 v0.n, .string (strB v0.text), vk0, vl0] 26)) (Array.getElem?_eq_some_iff.1 hU8.val).1 (ltOf hU8.c0)
                have hU10 := hU0.keep hb9 (Nat.lt_succ_self _) (by omega)
                have hst9 := put_vals (p := p9) (n := n9) (c := c9) hc9 hf9
                have hbs9 : (Instr.buildSlice 24 1 #[(0, .agg #[.int .i64 v0.kind, .bool v0.b, .int .i64 v0.n, .string (strB v0.text), vk0, vl0])]).run Tryz.prog w8 = .ok (.slice (some ⟨w8.heap.size, 0, none⟩) 1 1) (w8.alloc (.cells #[.int .i64 v0.kind, .bool v0.b, .int .i64 v0.n, .string (strB v0.text), vk0, vl0] 26)) := build_val w8 hx8
                refine ⟨_, rfl, .inr hU8, ?_⟩
                simp only [Act.put, List.setIfInBounds_toArray, List.set_cons_zero, List.set_cons_succ]
                refine onlyRun 7 75 (v := .slice (some ⟨w8.heap.size, 0, none⟩) 1 1) rfl rfl (by kernel_rfl) rfl (exec_buildSlice1 rfl rfl hbs9) (.inr hU9) ?_
                simp only [Act.put, List.setIfInBounds_toArray, List.set_cons_zero, List.set_cons_succ]
                refine onlyRun 8 76 (v := .slice p9 n9 c9) rfl rfl (by kernel_rfl) rfl (exec_append rfl rfl rfl ha9) (.inr hU10) ?_
                simp only [Act.put, List.setIfInBounds_toArray, List.set_cons_zero, List.set_cons_succ]
                refine take 9 77 (v := .pointer (some ⟨w5.heap.size, 5, none⟩)) rfl rfl (by kernel_rfl) (by kernel_rfl) (by kernel_rfl) rfl (fun W hW => exec_fieldAddr rfl rfl (fa_value _ _ (by decide) W)) (by assumption) ?_
                simp only [Act.put, List.setIfInBounds_toArray, List.set_cons_zero, List.set_cons_succ]
                refine onlySkip 10 rfl rfl (by kernel_rfl) rfl (exec_store rfl rfl rfl hst9) (.inl (by kernel_rfl)) ?_
                refine done (by kernel_rfl) ?_ _
                clear hU0 hU8 hU9 hU10 hbs9 ha9 hst9 hb9 hc9 hf9 hb8 hx8 hb3 hV0 hV4
                generalize W9.setCell ⟨w5.heap.size, 5, none⟩ (.slice p9 n9 c9) = W10 at *
                have HE1 := Lib.hid (show MapJ w5 W10 ks l q (j + 1) from ⟨p4, n4, c4, p9, n9, c9, by rw [take_map _ HX.out.1, take_map _ HX.out.1, HX.out.2.1, HX.out.2.2.1]; exact hV9, HRI.out⟩)
                clear hV hR hbw hbx k1 hL9 hL8 hw5 hkz hlz hV3 hV9 hbd hlt5
                go_wp2
                go_roundw
                case rel => exact ⟨j + 1, hlt1, by go_num, HE1⟩
                case measure => simp [intOf]; omega
          · obtain rfl : j = ks.length := by omega
            obtain ⟨pk', nk', ck', pl', nl', cl', hV, hR⟩ := HJ.out
            rw [List.take_of_length_le (by rw [HQ.out.len]; exact Nat.le_refl _)] at hV hR
            have hB := HB5.out.keep hV.below (by have := HB5.out.lt; omega)
            obtain ⟨W', s1, s2, s3, s4⟩ := hB.put (hV.own.imp (P' := fun b => w.heap.size + 2 ≤ b) fun b _ hb => by have := HB5.out.lt; omega)
            have HLD := Lib.hid (get_val hV.box)
            have HS := Lib.hid s1
            have HL2 := Lib.hid s2
            have HF := Lib.hid (And.intro s3 (And.intro s4 hR))
            clear hV hR hB s1 s2 s3 s4 HJ
            go_wp2_with (first
              | (refine wpList_load rfl _ _ _ rfl rfl HLD.out ?_)
              | (refine wpList_store rfl _ _ _ _ rfl rfl rfl HS.out ?_))
            exact bodyPost_ret (results_cell_tmp rfl _ _ ⟨w.heap.size + 1, 0, none⟩ _ (.int .i64 0) rfl rfl HL2.out) rfl (HA.out 0 _ W' _ HF.out.2.1 HF.out.1 (.inr ⟨rfl, q, HQ.out.perm, rfl, HF.out.2.2⟩))
  · have hA : ∀ (W : World) (x : Array Value), Below w.heap.size w W → VOwn W (fun b => w.heap.size ≤ b) V0 x → MapOk w ks l (.returned (.tuple #[.agg x, .int .i64 2])) W :=
      fun W x h1 h2 => ⟨h1, x, 2, V0, rfl, h2, .inl ⟨rfl, rfl, .inl he⟩⟩
    generalize MapOk w ks l = Q at *
    obtain ⟨W', s1, s2, s3, s4⟩ := hT.put (own_zero _ _)
    have HA := Lib.hid hA
    have HS := Lib.hid s1
    have HL2 := Lib.hid s2
    have HF := Lib.hid (And.intro s3 s4)
    have hne : ¬ (ks.length : Int) = (l.length : Int) := by omega
    clear hA hT hk hl s1 s2 s3 s4
    go_enter Tryz.func36, Tryz.ntmps36
    go_wp2_with (first
      | (refine wpList_store rfl _ _ _ _ rfl rfl rfl HS.out ?_))
    exact bodyPost_ret (results_cell_tmp rfl _ _ ⟨w.heap.size + 1, 0, none⟩ _ (.int .i64 2) rfl rfl HL2.out) rfl (HA.out W' _ HF.out.2 HF.out.1)
end Go.Proofs.YtnkaegdnjfpliaaGreatDoor
