/- The document's disk: New. Printed by gen_rnew.py. -/
import Derived.Test.YtmgajgeoibbmjaaRow
import Derived.Test.YtmgajgeoibbmjaaRefn
namespace Go.Proofs.Ytmgajgeoibbmjaa
open Go.RowKit

theorem put_strs {w : World} {ad : Addr} {p : Option Addr} {n c : Nat} {u : Value} (hc : w.cell? ad = some u) (hf : w.frozen? ad = false) : (storeVar 29 ad (.slice p n c)).run Try.prog w = .ok () (w.setCell ad (.slice p n c)) := by
  simp [storeVar, go_sem, hc, hf]
theorem put_strss {w : World} {ad : Addr} {p : Option Addr} {n c : Nat} {u : Value} (hc : w.cell? ad = some u) (hf : w.frozen? ad = false) : (storeVar 30 ad (.slice p n c)).run Try.prog w = .ok () (w.setCell ad (.slice p n c)) := by
  simp [storeVar, go_sem, hc, hf]
theorem info_st : ∃ i, Try.prog.info? 9 = some i ∧ i.zero = some (.string ⟨#[]⟩) ∧ i.size = 1 ∧ i.bytes = 16 := info_parts (by kernel_rfl)
theorem info_ss : ∃ i, Try.prog.info? 29 = some i ∧ i.zero = some (.slice none 0 0) ∧ i.size = 1 ∧ i.bytes = 24 := info_parts (by kernel_rfl)

/-- One element more. -/
theorem append_one {P : Program} {w : World} (t ty e : TypeId) (i : TypeInfo) (z : Value) (bytes : Nat) (ht : P.underlying t = some (.slice e)) (hi : P.info? e = some i) (hz : i.zero = some z) (hsize : i.size = 1) (hby : i.bytes = bytes) (hzs : z.cells.size = 1) (hb8 : bytes ≤ 64)
    {v : Value} {n : Nat} {xs : List Value} (hown : w.ownsRow 0 e 1 v n xs) (u : Value) (h1 : u.oneCell' = true) (hn : n + 1 ≤ 1000000) :
    ∃ g c w', (Builtin.append_ #[t, t] ty #[v, .slice (some ⟨w.heap.size, 0, none⟩) 1 1]).run P (w.alloc (.cells #[u] e)) = .ok (.slice (some ⟨g, 0, none⟩) (n + 1) c) w' ∧ w'.ownsRow 0 e 1 (.slice (some ⟨g, 0, none⟩) (n + 1) c) (n + 1) (xs ++ [u]) ∧
      Touch (fun b => v.ownBlock = some b) w w' ∧ (v.ownBlock = some g ∨ w.heap.size < g) := by
  have hT : Touch (fun b => v.ownBlock = some b) w (w.alloc (.cells #[u] e)) := (Touch.refl _ _).alloc _
  have hown1 : (w.alloc (.cells #[u] e)).ownsRow 0 e 1 v n xs := ownsRow_heap hown fun g hg => by rw [heap_get_alloc, if_neg (by have := (hown.lt g hg).2; omega)]
  obtain ⟨v', w', a1, a2, a3, a4, a5⟩ := append_law (P := P) t ty e i z 1 bytes ht hi hz hsize hby hzs v n xs hown1 ⟨w.heap.size, 0, none⟩ 1 1 [u] rfl (by
    intro j x hx
    cases j with
    | zero => simp at hx; subst hx; rw [addr_add]; exact cellOf (heap_alloc_new _ _) rfl
    | succ j => simp at hx) (by intro x hx; simp at hx; subst hx; exact h1) (by unfold maxLen; omega) (by have : (n + 1) * bytes ≤ 1000000 * 64 := Nat.mul_le_mul hn hb8; omega)
  obtain ⟨g, cap, rfl⟩ := ownsRow_succ a2
  refine ⟨g, cap, w', a1, a2, hT.step a3 (fun b _ h => h), ?_⟩
  rcases a4 with h | h
  · left; rw [← h]; rfl
  · right; simp [Value.ownBlock] at h; omega

/-- What New has made behind some rounds. -/
def NewI (w W : World) (xL xS xQ : List Value) (vL vS vQ : Value) : Prop :=
  W.heap[w.heap.size + 1]? = some (.cells #[vL, vS, vQ, .slice none 0 0, .int .i64 0] 33 (0, 0)) ∧
  W.ownsRow 0 9 1 vL xL.length xL ∧ W.ownsRow 0 9 1 vS xS.length xS ∧ W.ownsRow 0 29 1 vQ xQ.length xQ ∧
  (∀ g, vL.ownBlock = some g → w.heap.size + 2 ≤ g ∧ vS.ownBlock ≠ some g ∧ vQ.ownBlock ≠ some g) ∧ (∀ g, vS.ownBlock = some g → w.heap.size + 2 ≤ g ∧ vQ.ownBlock ≠ some g) ∧ (∀ g, vQ.ownBlock = some g → w.heap.size + 2 ≤ g) ∧ Below w.heap.size w W ∧
  W.heap[w.heap.size]? = some (.cells #[.slice none 0 0, .slice none 0 0, .slice none 0 0, .slice none 0 0, .int .i64 0] 33 (0, 0))
section
variable {w W W' : World} {xL xS xQ : List Value} {vL vS vQ : Value}
theorem NewI.lt (h : NewI w W xL xS xQ vL vS vQ) : w.heap.size + 1 < W.heap.size := (Array.getElem?_eq_some_iff.1 h.1).1
theorem NewI.below (h : NewI w W xL xS xQ vL vS vQ) (g : Below W.heap.size W W') : NewI w W' xL xS xQ vL vS vQ := by
  have hlt := h.lt
  obtain ⟨h1, h2, h3, h4, h5, h6, h7, h8, h9⟩ := h
  exact ⟨belowBlk g hlt h1, ownsRow_heap h2 fun b hb => g.block b (h2.lt b hb).2, ownsRow_heap h3 fun b hb => g.block b (h3.lt b hb).2, ownsRow_heap h4 fun b hb => g.block b (h4.lt b hb).2, h5, h6, h7, h8.trans (g.mono h8.size), belowBlk g (by omega) h9⟩
/-- A field's row is one longer. -/
theorem NewI.add0 (h : NewI w W xL xS xQ vL vS vQ) (u : Value) (h1 : u.oneCell' = true) (hn : xL.length + 1 ≤ 1000000) (ty : TypeId) :
    ∃ g c W2, (Builtin.append_ #[29, 29] ty #[vL, .slice (some ⟨W.heap.size, 0, none⟩) 1 1]).run Try.prog (W.alloc (.cells #[u] 9)) = .ok (.slice (some ⟨g, 0, none⟩) (xL.length + 1) c) W2 ∧
      (storeVar 29 ⟨w.heap.size + 1, 0, none⟩ (.slice (some ⟨g, 0, none⟩) (xL.length + 1) c)).run Try.prog W2 = .ok () (W2.setCell ⟨w.heap.size + 1, 0, none⟩ (.slice (some ⟨g, 0, none⟩) (xL.length + 1) c)) ∧
      W2.cell? ⟨w.heap.size + 1, 0, none⟩ = some vL ∧ NewI w (W2.setCell ⟨w.heap.size + 1, 0, none⟩ (.slice (some ⟨g, 0, none⟩) (xL.length + 1) c)) (xL ++ [u]) xS xQ (.slice (some ⟨g, 0, none⟩) (xL.length + 1) c) vS vQ := by
  have hlt := h.lt
  obtain ⟨k1, k2, k3, k4, k5, k6, k7, k8, k9⟩ := h
  obtain ⟨i, i1, i2, i3, i4⟩ := info_st
  obtain ⟨g, c, W2, a1, a2, a3, a4⟩ := append_one (P := Try.prog) 29 ty 9 i _ 16 Try.underlying29 i1 i2 i3 i4 rfl (by omega) k2 u h1 hn
  have hg2 : w.heap.size + 2 ≤ g := by rcases a4 with h | h; exact (k5 g h).1; omega
  have hb : W2.heap[w.heap.size + 1]? = _ := a3.heap k1 (fun e => by have := (k5 _ e).1; omega)
  have hS := ownsRow_heap (w' := W2) k3 fun b hb => a3.block b (k3.lt b hb).2 fun e => (k5 b e).2.1 hb
  have hQ := ownsRow_heap (w' := W2) k4 fun b hb => a3.block b (k4.lt b hb).2 fun e => (k5 b e).2.2 hb
  have ho : ∀ b, b ≠ w.heap.size + 1 → (W2.setCell ⟨w.heap.size + 1, 0, none⟩ (.slice (some ⟨g, 0, none⟩) (xL.length + 1) c)).heap[b]? = W2.heap[b]? := fun b hb => Below.heap_setCell W2 ⟨w.heap.size + 1, 0, none⟩ _ b hb
  refine ⟨g, c, W2, a1, put_strs (cellOf hb rfl) (freeOf hb), cellOf hb rfl, ?_, ?_, ownsRow_heap hS fun b hb => ho b (by have := (k6 b hb).1; omega), ownsRow_heap hQ fun b hb => ho b (by have := k7 b hb; omega), ?_, k6, k7, ?_, ?_⟩
  · rw [heap_setCell_same W2 _ 0 _ _ _ hb]; rfl
  · rw [List.length_append]; exact ownsRow_heap a2 fun b hb => ho b (by simp [Value.ownBlock] at hb; omega)
  · intro b hb
    simp [Value.ownBlock] at hb
    subst hb
    refine ⟨hg2, fun e => ?_, fun e => ?_⟩
    · rcases a4 with h | h
      · exact (k5 g h).2.1 e
      · have := (k3.lt g e).2; omega
    · rcases a4 with h | h
      · exact (k5 g h).2.2 e
      · have := (k4.lt g e).2; omega
  · exact belowSet (a3.below k8 (fun b hb e => by have := (k5 b e).1; omega) k8.size) (by omega) _
  · exact (ho _ (by omega)).trans (a3.heap k9 (fun e => by have := (k5 _ e).1; omega))
theorem NewI.add1 (h : NewI w W xL xS xQ vL vS vQ) (u : Value) (h1 : u.oneCell' = true) (hn : xS.length + 1 ≤ 1000000) (ty : TypeId) :
    ∃ g c W2, (Builtin.append_ #[29, 29] ty #[vS, .slice (some ⟨W.heap.size, 0, none⟩) 1 1]).run Try.prog (W.alloc (.cells #[u] 9)) = .ok (.slice (some ⟨g, 0, none⟩) (xS.length + 1) c) W2 ∧
      (storeVar 29 ⟨w.heap.size + 1, 1, none⟩ (.slice (some ⟨g, 0, none⟩) (xS.length + 1) c)).run Try.prog W2 = .ok () (W2.setCell ⟨w.heap.size + 1, 1, none⟩ (.slice (some ⟨g, 0, none⟩) (xS.length + 1) c)) ∧
      W2.cell? ⟨w.heap.size + 1, 1, none⟩ = some vS ∧ NewI w (W2.setCell ⟨w.heap.size + 1, 1, none⟩ (.slice (some ⟨g, 0, none⟩) (xS.length + 1) c)) xL (xS ++ [u]) xQ vL (.slice (some ⟨g, 0, none⟩) (xS.length + 1) c) vQ := by
  have hlt := h.lt
  obtain ⟨k1, k2, k3, k4, k5, k6, k7, k8, k9⟩ := h
  obtain ⟨i, i1, i2, i3, i4⟩ := info_st
  obtain ⟨g, c, W2, a1, a2, a3, a4⟩ := append_one (P := Try.prog) 29 ty 9 i _ 16 Try.underlying29 i1 i2 i3 i4 rfl (by omega) k3 u h1 hn
  have hg2 : w.heap.size + 2 ≤ g := by rcases a4 with h | h; exact (k6 g h).1; omega
  have hb : W2.heap[w.heap.size + 1]? = _ := a3.heap k1 (fun e => by have := (k6 _ e).1; omega)
  have hL := ownsRow_heap (w' := W2) k2 fun b hb => a3.block b (k2.lt b hb).2 fun e => (k5 b hb).2.1 e
  have hQ := ownsRow_heap (w' := W2) k4 fun b hb => a3.block b (k4.lt b hb).2 fun e => (k6 b e).2 hb
  have ho : ∀ b, b ≠ w.heap.size + 1 → (W2.setCell ⟨w.heap.size + 1, 1, none⟩ (.slice (some ⟨g, 0, none⟩) (xS.length + 1) c)).heap[b]? = W2.heap[b]? := fun b hb => Below.heap_setCell W2 ⟨w.heap.size + 1, 1, none⟩ _ b hb
  refine ⟨g, c, W2, a1, put_strs (cellOf hb rfl) (freeOf hb), cellOf hb rfl, ?_, ownsRow_heap hL fun b hb => ho b (by have := (k5 b hb).1; omega), ?_, ownsRow_heap hQ fun b hb => ho b (by have := k7 b hb; omega), fun b hb => ⟨(k5 b hb).1, fun e => ?_, (k5 b hb).2.2⟩, ?_, k7, ?_, ?_⟩
  · rw [heap_setCell_same W2 _ 1 _ _ _ hb]; rfl
  · rw [List.length_append]; exact ownsRow_heap a2 fun b hb => ho b (by simp [Value.ownBlock] at hb; omega)
  · simp [Value.ownBlock] at e
    subst e
    rcases a4 with h | h
    · exact (k5 g hb).2.1 h
    · have := (k2.lt g hb).2; omega
  · intro b hb
    simp [Value.ownBlock] at hb
    subst hb
    refine ⟨hg2, fun e => ?_⟩
    rcases a4 with h | h
    · exact (k6 g h).2 e
    · have := (k4.lt g e).2; omega
  · exact belowSet (a3.below k8 (fun b hb e => by have := (k6 b e).1; omega) k8.size) (by omega) _
  · exact (ho _ (by omega)).trans (a3.heap k9 (fun e => by have := (k6 _ e).1; omega))
theorem NewI.add2 (h : NewI w W xL xS xQ vL vS vQ) (u : Value) (h1 : u.oneCell' = true) (hn : xQ.length + 1 ≤ 1000000) (ty : TypeId) :
    ∃ g c W2, (Builtin.append_ #[30, 30] ty #[vQ, .slice (some ⟨W.heap.size, 0, none⟩) 1 1]).run Try.prog (W.alloc (.cells #[u] 29)) = .ok (.slice (some ⟨g, 0, none⟩) (xQ.length + 1) c) W2 ∧
      (storeVar 30 ⟨w.heap.size + 1, 2, none⟩ (.slice (some ⟨g, 0, none⟩) (xQ.length + 1) c)).run Try.prog W2 = .ok () (W2.setCell ⟨w.heap.size + 1, 2, none⟩ (.slice (some ⟨g, 0, none⟩) (xQ.length + 1) c)) ∧
      W2.frozen? ⟨w.heap.size + 1, 2, none⟩ = false ∧ W2.cell? ⟨w.heap.size + 1, 2, none⟩ = some vQ ∧ NewI w (W2.setCell ⟨w.heap.size + 1, 2, none⟩ (.slice (some ⟨g, 0, none⟩) (xQ.length + 1) c)) xL xS (xQ ++ [u]) vL vS (.slice (some ⟨g, 0, none⟩) (xQ.length + 1) c) := by
  have hlt := h.lt
  obtain ⟨k1, k2, k3, k4, k5, k6, k7, k8, k9⟩ := h
  obtain ⟨i, i1, i2, i3, i4⟩ := info_ss
  obtain ⟨g, c, W2, a1, a2, a3, a4⟩ := append_one (P := Try.prog) 30 ty 29 i _ 24 Try.underlying30 i1 i2 i3 i4 rfl (by omega) k4 u h1 hn
  have hg2 : w.heap.size + 2 ≤ g := by rcases a4 with h | h; exact k7 g h; omega
  have hb : W2.heap[w.heap.size + 1]? = _ := a3.heap k1 (fun e => by have := k7 _ e; omega)
  have hL := ownsRow_heap (w' := W2) k2 fun b hb => a3.block b (k2.lt b hb).2 fun e => (k5 b hb).2.2 e
  have hS := ownsRow_heap (w' := W2) k3 fun b hb => a3.block b (k3.lt b hb).2 fun e => (k6 b hb).2 e
  have ho : ∀ b, b ≠ w.heap.size + 1 → (W2.setCell ⟨w.heap.size + 1, 2, none⟩ (.slice (some ⟨g, 0, none⟩) (xQ.length + 1) c)).heap[b]? = W2.heap[b]? := fun b hb => Below.heap_setCell W2 ⟨w.heap.size + 1, 2, none⟩ _ b hb
  refine ⟨g, c, W2, a1, put_strss (cellOf hb rfl) (freeOf hb), freeOf hb, cellOf hb rfl, ?_, ownsRow_heap hL fun b hb => ho b (by have := (k5 b hb).1; omega), ownsRow_heap hS fun b hb => ho b (by have := (k6 b hb).1; omega), ?_, fun b hb => ⟨(k5 b hb).1, (k5 b hb).2.1, fun e => ?_⟩, fun b hb => ⟨(k6 b hb).1, fun e => ?_⟩, ?_, ?_, ?_⟩
  · rw [heap_setCell_same W2 _ 2 _ _ _ hb]; rfl
  · rw [List.length_append]; exact ownsRow_heap a2 fun b hb => ho b (by simp [Value.ownBlock] at hb; omega)
  · simp [Value.ownBlock] at e
    subst e
    rcases a4 with h | h
    · exact (k5 g hb).2.2 h
    · have := (k2.lt g hb).2; omega
  · simp [Value.ownBlock] at e
    subst e
    rcases a4 with h | h
    · exact (k6 g hb).2 h
    · have := (k3.lt g hb).2; omega
  · intro b hb
    simp [Value.ownBlock] at hb
    subst hb
    exact hg2
  · exact belowSet (a3.below k8 (fun b hb e => by have := k7 b e; omega) k8.size) (by omega) _
  · exact (ho _ (by omega)).trans (a3.heap k9 (fun e => by have := k7 _ e; omega))
end


theorem zeros_rep (n : Nat) : zeros n = List.replicate n 0 := rfl
set_option maxRecDepth 100000 in
theorem noughts_any (w : World) : Calls Try.prog 23 #[] w fun e w' => e = .returned (.string (strB zblk)) ∧ Below w.heap.size w w' := by
  obtain ⟨W', hmk, hcv, hB⟩ := made_string 512 (by omega) w
  have Hmk := Lib.hid hmk
  have Hcv := Lib.hid hcv
  have HB := Lib.hid hB
  have ez : zeros 512 = zblk := by unfold zblk; exact zeros_rep 512
  rw [ez] at Hcv
  clear hmk hcv hB ez
  go_enter Try.func23, Try.ntmps23
  go_wp2_with (first
    | (refine wpList_run rfl (exec_makeSlice rfl rfl rfl Hmk.out) ?_)
    | (refine wpList_run rfl (exec_convert rfl rfl Hcv.out) ?_))
  go_ret
  exact ⟨rfl, HB.out⟩

theorem rep_succ (k : Nat) (v : Value) : List.replicate k v ++ [v] = List.replicate (k + 1) v := by rw [List.replicate_succ']

theorem results_cell_one {P : Program} {fn : Func} {p : Tmp} {ty : TypeId} (h : fn.results = #[.cell p ty]) (tmps : Array Value) (w : World) (ad : Addr) (v : Value)
    (hp : tmps.getD p undef = .pointer (some ad)) (hl : (loadVar ty ad).run P w = .ok v w) : (results fn tmps).run P w = .ok v w := by
  have hp' : tmps[p]?.getD undef = .pointer (some ad) := by simpa using hp
  simp [results, h, hp', asAddr, hl]

/-- The document's disk, whole, is stored and loaded. -/
theorem put_ref {W : World} {g : Nat} {cs : Array Value} (h : W.heap[g]? = some (.cells cs 33 (0, 0))) (hs : cs.size = 5) (q1 q2 q3 q4 : Option Addr) (n1 n2 n3 n4 c1 c2 c3 c4 : Nat) (st : Int) :
    ∃ W', (storeVar 33 ⟨g, 0, none⟩ (.agg #[.slice q1 n1 c1, .slice q2 n2 c2, .slice q3 n3 c3, .slice q4 n4 c4, .int .i64 st])).run Try.prog W = .ok () W' ∧ Touch (fun x => x = g) W W' ∧ W'.heap[g]? = some (.cells #[.slice q1 n1 c1, .slice q2 n2 c2, .slice q3 n3 c3, .slice q4 n4 c4, .int .i64 st] 33 (0, 0)) := by
  have hr := run_storeVar_row (P := Try.prog) W g 33 33 cs #[.slice q1 n1 c1, .slice q2 n2 c2, .slice q3 n3 c3, .slice q4 n4 c4, .int .i64 st] h (by kernel_rfl) hs (by simp; exact ⟨rfl, rfl, rfl, rfl, rfl⟩)
  exact ⟨_, hr, ⟨rfl, rfl, rfl, by simp, fun x _ hne => setRow_other _ _ _ _ hne⟩, by rw [setRow_heap _ _ _ _ _ _ h]⟩
theorem get_ref {W : World} {g : Nat} {q1 q2 q3 q4 : Option Addr} {n1 n2 n3 n4 c1 c2 c3 c4 : Nat} {st : Int} (h : W.heap[g]? = some (.cells #[.slice q1 n1 c1, .slice q2 n2 c2, .slice q3 n3 c3, .slice q4 n4 c4, .int .i64 st] 33 (0, 0))) :
    (loadVar 33 ⟨g, 0, none⟩).run Try.prog W = .ok (.agg #[.slice q1 n1 c1, .slice q2 n2 c2, .slice q3 n3 c3, .slice q4 n4 c4, .int .i64 st]) W :=
  run_loadVar_row W g 33 33 _ (0, 0) _ h Try.underlying33 rfl (by kernel_rfl)

/-- The document's disk as a value: its rows lie in blocks of their own. -/
def RefVal (w0 w : World) (n : Nat) (v : Value) : Prop := ∃ L cL S cS Q cQ, v = .agg #[.slice (some ⟨L, 0, none⟩) n cL, .slice (some ⟨S, 0, none⟩) n cS, .slice (some ⟨Q, 0, none⟩) n cQ, .slice none 0 0, .int .i64 0] ∧
  RowAt w L cL 9 (List.replicate n (strV zblk)) ∧ RowAt w S cS 9 (List.replicate n (strV zblk)) ∧ RowAt w Q cQ 29 (List.replicate n (.slice none 0 0)) ∧ [L, S, Q].Nodup ∧ ∀ b ∈ [L, S, Q], w0.heap.size ≤ b

set_option maxRecDepth 100000 in
set_option maxHeartbeats 2000000 in
theorem refNew_any (n : Nat) (h1 : 1 ≤ n) (hn : n ≤ 1000) (w : World) : Calls Try.prog 9 #[.int .i64 (n : Int)] w fun e w' => ∃ v, e = .returned v ∧ RefVal w w' n v ∧ Below w.heap.size w w' := by
  have hI0 : NewI w ((w.alloc (.cells #[.slice none 0 0, .slice none 0 0, .slice none 0 0, .slice none 0 0, .int .i64 0] 33)).alloc (.cells #[.slice none 0 0, .slice none 0 0, .slice none 0 0, .slice none 0 0, .int .i64 0] 33)) [] [] [] (.slice none 0 0) (.slice none 0 0) (.slice none 0 0) :=
by
    refine ⟨?_, World.ownsRow_nil _ _ _ _, World.ownsRow_nil _ _ _ _, World.ownsRow_nil _ _ _ _, fun g h => absurd h (by simp [Value.ownBlock]), fun g h => absurd h (by simp [Value.ownBlock]), fun g h => absurd h (by simp [Value.ownBlock]), ((Below.refl _ _).alloc (Nat.le_refl _) _).alloc (by simp) _, ?_⟩
    · simp only [heap_get_alloc, World.size_alloc]; rw [if_pos trivial]
    · simp only [heap_get_alloc, World.size_alloc]; rw [if_neg (by omega), if_pos trivial]
  have HI0 := Lib.hid hI0
  clear hI0
  go_enter Try.func9, Try.ntmps9
  go_wp2
  go_loopw [4] (fun i wr => ∃ (k : Nat) (vL vS vQ : Value), k ≤ n ∧ i = .int .i64 (k : Int) ∧ NewI w wr (List.replicate k (strV zblk)) (List.replicate k (strV zblk)) (List.replicate k (.slice none 0 0)) vL vS vQ) (fun i _ => n - (intOf i).toNat)
  case atStart => exact ⟨0, _, _, _, Nat.zero_le _, rfl, HI0.out⟩
  case round =>
    obtain ⟨k, vL, vS, vQ, hk, rfl, hI⟩ := hrel
    by_cases hlt : k < n
    · have hb := hI.lt
      have hf0 : ∀ W : World, (Instr.fieldAt 33 (.pointer (some ⟨w.heap.size + 1, 0, none⟩)) 0).run Try.prog W = .ok (.pointer (some ⟨w.heap.size + 1, 0, none⟩)) W := by intro W; simp [go_sem]
      have hf1 : ∀ W : World, (Instr.fieldAt 33 (.pointer (some ⟨w.heap.size + 1, 0, none⟩)) 1).run Try.prog W = .ok (.pointer (some ⟨w.heap.size + 1, 1, none⟩)) W := by intro W; simp [go_sem]
      have hS0 : wr.drew.cell? ⟨w.heap.size + 1, 0, none⟩ = some vL := cellOf hI.1 rfl
      have HI := Lib.hid hI
      have HF := Lib.hid (And.intro hf0 hf1)
      clear hI hf0 hf1
      go_wp2
      obtain ⟨hf0, hf1⟩ := HF.out
      refine plain_region_draws (fun W => W.cell? ⟨w.heap.size + 1, 0, none⟩ = some vL) (by kernel_rfl) hS0 (fun hS => ?_)
      refine take 0 10 (v := .pointer (some ⟨w.heap.size + 1, 0, none⟩)) rfl rfl (by kernel_rfl) (by kernel_rfl) (by kernel_rfl) rfl (fun W hW => exec_fieldAddr rfl rfl (hf0 W)) (by assumption) ?_
      simp only [Act.put, List.setIfInBounds_toArray, List.set_cons_zero, List.set_cons_succ]
      refine take 1 11 (v := vL) rfl rfl (by kernel_rfl) (by kernel_rfl) (by kernel_rfl) rfl (fun W hW => exec_load rfl rfl (run_load1 (w := W) Try.underlying29 rfl hW)) (by assumption) ?_
      simp only [Act.put, List.setIfInBounds_toArray, List.set_cons_zero, List.set_cons_succ]
      refine onlyCall 2 12 rfl rfl (by kernel_rfl) rfl (exec_call [] rfl rfl Try.func23 (by kernel_rfl) (by kernel_rfl)) ?_
      refine (noughts_any _).mono ?_
      rintro e w1 ⟨rfl, hb1⟩
      have hI1 := (HI.out.below ((Below.refl _ _).drew)).below hb1
      obtain ⟨g, c, W2, happ, hst, hc2, hI3⟩ := hI1.add0 (strV zblk) rfl (by simp; omega) 29
      have hS1 : w1.cell? ⟨w.heap.size + 1, 0, none⟩ = some vL := cellOf hI1.1 rfl
      have hbs := run_buildSlice_one (P := Try.prog) (w := w1) (v := .string (strB zblk)) Try.underlying29 Try.sizeOf9 Try.zeroValue9 rfl (by omega) (by omega)
      refine ⟨_, rfl, .inr hS1, ?_⟩
      simp only [Act.put, List.setIfInBounds_toArray, List.set_cons_zero, List.set_cons_succ]
      refine onlyRun 3 13 (v := .slice (some ⟨w1.heap.size, 0, none⟩) 1 1) rfl rfl (by kernel_rfl) rfl (exec_buildSlice1 rfl rfl hbs) (.inr (belowCell ((Below.refl _ _).alloc (Nat.le_refl _) _) (ltOf hS1) hS1)) ?_
      simp only [Act.put, List.setIfInBounds_toArray, List.set_cons_zero, List.set_cons_succ]
      refine onlyRun 4 14 (v := .slice (some ⟨g, 0, none⟩) ((List.replicate k (strV zblk)).length + 1) c) rfl rfl (by kernel_rfl) rfl (exec_append rfl rfl rfl happ) (.inr hc2) ?_
      simp only [Act.put, List.setIfInBounds_toArray, List.set_cons_zero, List.set_cons_succ]
      refine take 5 15 (v := .pointer (some ⟨w.heap.size + 1, 0, none⟩)) rfl rfl (by kernel_rfl) (by kernel_rfl) (by kernel_rfl) rfl (fun W hW => exec_fieldAddr rfl rfl (hf0 W)) (by assumption) ?_
      simp only [Act.put, List.setIfInBounds_toArray, List.set_cons_zero, List.set_cons_succ]
      refine onlySkip 6 rfl rfl (by kernel_rfl) rfl (exec_store rfl rfl rfl hst) (.inl (by kernel_rfl)) ?_
      generalize hW : W2.setCell _ _ = W3 at *
      clear hW
      refine done (by kernel_rfl) ?_ _
      have HI3 := Lib.hid hI3
      clear hI1 happ hst hS hS0 hf0 hf1 hc2 hbs hb1 HI
      go_wp2
      obtain ⟨hf0, hf1⟩ := HF.out
      have hS0 : W3.drew.cell? ⟨w.heap.size + 1, 1, none⟩ = some vS := cellOf HI3.out.1 rfl
      refine plain_region_draws (fun W => W.cell? ⟨w.heap.size + 1, 1, none⟩ = some vS) (by kernel_rfl) hS0 (fun hS => ?_)
      refine take 0 16 (v := .pointer (some ⟨w.heap.size + 1, 1, none⟩)) rfl rfl (by kernel_rfl) (by kernel_rfl) (by kernel_rfl) rfl (fun W hW => exec_fieldAddr rfl rfl (hf1 W)) (by assumption) ?_
      simp only [Act.put, List.setIfInBounds_toArray, List.set_cons_zero, List.set_cons_succ]
      refine take 1 17 (v := vS) rfl rfl (by kernel_rfl) (by kernel_rfl) (by kernel_rfl) rfl (fun W hW => exec_load rfl rfl (run_load1 (w := W) Try.underlying29 rfl hW)) (by assumption) ?_
      simp only [Act.put, List.setIfInBounds_toArray, List.set_cons_zero, List.set_cons_succ]
      refine onlyCall 2 18 rfl rfl (by kernel_rfl) rfl (exec_call [] rfl rfl Try.func23 (by kernel_rfl) (by kernel_rfl)) ?_
      refine (noughts_any _).mono ?_
      rintro e w4 ⟨rfl, hb1⟩
      have hI4 := (HI3.out.below ((Below.refl _ _).drew)).below hb1
      obtain ⟨g2, c2, W5, happ2, hst2, hc2, hI6⟩ := hI4.add1 (strV zblk) rfl (by simp; omega) 29
      have hS1 : w4.cell? ⟨w.heap.size + 1, 1, none⟩ = some vS := cellOf hI4.1 rfl
      have hbs2 := run_buildSlice_one (P := Try.prog) (w := w4) (v := .string (strB zblk)) Try.underlying29 Try.sizeOf9 Try.zeroValue9 rfl (by omega) (by omega)
      refine ⟨_, rfl, .inr hS1, ?_⟩
      simp only [Act.put, List.setIfInBounds_toArray, List.set_cons_zero, List.set_cons_succ]
      refine onlyRun 3 19 (v := .slice (some ⟨w4.heap.size, 0, none⟩) 1 1) rfl rfl (by kernel_rfl) rfl (exec_buildSlice1 rfl rfl hbs2) (.inr (belowCell ((Below.refl _ _).alloc (Nat.le_refl _) _) (ltOf hS1) hS1)) ?_
      simp only [Act.put, List.setIfInBounds_toArray, List.set_cons_zero, List.set_cons_succ]
      refine onlyRun 4 20 (v := .slice (some ⟨g2, 0, none⟩) ((List.replicate k (strV zblk)).length + 1) c2) rfl rfl (by kernel_rfl) rfl (exec_append rfl rfl rfl happ2) (.inr hc2) ?_
      simp only [Act.put, List.setIfInBounds_toArray, List.set_cons_zero, List.set_cons_succ]
      refine take 5 21 (v := .pointer (some ⟨w.heap.size + 1, 1, none⟩)) rfl rfl (by kernel_rfl) (by kernel_rfl) (by kernel_rfl) rfl (fun W hW => exec_fieldAddr rfl rfl (hf1 W)) (by assumption) ?_
      simp only [Act.put, List.setIfInBounds_toArray, List.set_cons_zero, List.set_cons_succ]
      refine onlySkip 6 rfl rfl (by kernel_rfl) rfl (exec_store rfl rfl rfl hst2) (.inl (by kernel_rfl)) ?_
      generalize hW : W5.setCell _ _ = W6 at *
      clear hW
      refine done (by kernel_rfl) ?_ _
      obtain ⟨g3, c3, W7, happ3, hst3, hfr, hc7, hI7⟩ := hI6.add2 (.slice none 0 0) rfl (by simp; omega) 30
      have HA := Lib.hid happ3
      have HI7 := Lib.hid hI7
      have hc6 : W6.cell? ⟨w.heap.size + 1, 2, none⟩ = some vQ := cellOf hI6.1 rfl
      obtain ⟨a, m, c, rfl⟩ : ∃ a m c, vQ = .slice a m c := by
        rcases hI6.2.2.2.1.2 with ⟨h, _⟩ | ⟨g, cap, cur, h, _⟩
        · exact ⟨_, _, _, h⟩
        · exact ⟨_, _, _, h⟩
      clear hI4 hI6 hI7 happ2 happ3 hst2 hst3 hS hS0 hf0 hf1 hbs2 hb1 HI3 HF
      go_wp2_with (refine wpList_append rfl rfl rfl rfl HA.out ?_)
      go_roundw
      case rel => exact ⟨k + 1, _, _, _, by omega, by go_num, by have := HI7.out; simp only [List.length_replicate, rep_succ] at this; exact this⟩
      case measure => simp [intOf]; omega
    · obtain rfl : k = n := by omega
      have HI := Lib.hid hI
      obtain ⟨k0, r1, r2, r3, p1, p2, p3, hb, kz⟩ := hI
      rw [List.length_replicate] at r1 r2 r3
      obtain ⟨k, rfl⟩ : ∃ m, k = m + 1 := ⟨k - 1, by omega⟩
      obtain ⟨gL, cL, rfl⟩ := ownsRow_succ r1
      obtain ⟨gS, cS, rfl⟩ := ownsRow_succ r2
      obtain ⟨gQ, cQ, rfl⟩ := ownsRow_succ r3
      obtain ⟨W', hst, hT, hW'⟩ := put_ref kz rfl (some ⟨gL, 0, none⟩) (some ⟨gS, 0, none⟩) (some ⟨gQ, 0, none⟩) none (k + 1) (k + 1) (k + 1) 0 cL cS cQ 0 0
      have hne := k0
      have H1 := Lib.hid (get_ref k0)
      have H2 := Lib.hid hst
      have H3 := Lib.hid (get_ref hW')
      have Hfin : Hid (RefVal w W' (k + 1) (.agg #[.slice (some ⟨gL, 0, none⟩) (k + 1) cL, .slice (some ⟨gS, 0, none⟩) (k + 1) cS, .slice (some ⟨gQ, 0, none⟩) (k + 1) cQ, .slice none 0 0, .int .i64 0]) ∧ Below w.heap.size w W') := by
        have qL := (p1 gL rfl)
        have qS := (p2 gS rfl)
        have qQ := (p3 gQ rfl)
        simp only [Value.ownBlock, ne_eq, Option.some.injEq] at qL qS qQ
        refine Lib.hid ⟨⟨gL, cL, gS, cS, gQ, cQ, rfl, (RowAt.own r1).touch hT (by omega), (RowAt.own r2).touch hT (by omega), (RowAt.own r3).touch hT (by omega), ?_, ?_⟩, hT.below hb (fun b h1 h2 => by omega) hb.size⟩
        · simp only [List.nodup_cons, List.mem_cons, List.not_mem_nil, or_false, not_or, not_false_eq_true, List.nodup_nil, and_true]
          exact ⟨⟨fun e => qL.2.1 e.symm, fun e => qL.2.2 e.symm⟩, fun e => qS.2 e.symm⟩
        · intro b hb
          simp only [List.mem_cons, List.not_mem_nil, or_false] at hb
          rcases hb with rfl | rfl | rfl <;> omega
      clear hne k0 kz r1 r2 r3 p1 p2 p3 hb hst hT hW' HI HI0
      have hkk : ¬ (((k + 1 : Nat) : Int) < ((k + 1 : Nat) : Int)) := by omega
      go_wp2_with (first
        | (refine wpList_load rfl 33 _ _ rfl rfl H1.out ?_)
        | (refine wpList_store (v := .agg #[.slice (some ⟨gL, 0, none⟩) (k + 1) cL, .slice (some ⟨gS, 0, none⟩) (k + 1) cS, .slice (some ⟨gQ, 0, none⟩) (k + 1) cQ, .slice none 0 0, .int .i64 0]) rfl 33 _ _ _ rfl rfl rfl H2.out ?_))
      refine bodyPost_ret (results_cell_one rfl _ _ ⟨w.heap.size, 0, none⟩ _ rfl H3.out) rfl ⟨_, rfl, Hfin.out⟩
end Go.Proofs.Ytmgajgeoibbmjaa
