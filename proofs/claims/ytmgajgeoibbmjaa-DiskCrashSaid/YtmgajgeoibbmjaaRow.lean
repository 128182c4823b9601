/- Rows of cells in blocks of their own; the document's disk in memory. -/
import Derived.Test.YtmgajgeoibbmjaaDnv
namespace Go.Proofs.Ytmgajgeoibbmjaa
open Go.RowKit

/-- A row of cells that has a block of its own: its first ones are xs. -/
def RowAt (w : World) (b c : Nat) (e : TypeId) (xs : List Value) : Prop := ∃ cur : Array Value, w.heap[b]? = some (.cells cur e (0, 0)) ∧ cur.size = c ∧ xs.length ≤ c ∧ cur.toList.take xs.length = xs
section
variable {w w' : World} {b c : Nat} {e : TypeId} {xs : List Value}
theorem RowAt.cell (h : RowAt w b c e xs) {j : Nat} {u : Value} (hu : xs[j]? = some u) : w.cell? ⟨b, j, none⟩ = some u := by
  obtain ⟨cur, h1, h2, h3, h4⟩ := h
  refine cellOf h1 ?_
  have hj : j < xs.length := (List.getElem?_eq_some_iff.1 hu).1
  rw [← h4, List.getElem?_take_of_lt hj] at hu
  rw [← hu]; simp
theorem RowAt.free (h : RowAt w b c e xs) (j : Nat) : w.frozen? ⟨b, j, none⟩ = false := by obtain ⟨cur, h1, _⟩ := h; exact freeOf h1
theorem RowAt.lt (h : RowAt w b c e xs) : b < w.heap.size := by obtain ⟨cur, h1, _⟩ := h; exact (Array.getElem?_eq_some_iff.1 h1).1
theorem RowAt.of_heap (h : RowAt w b c e xs) (g : w'.heap[b]? = w.heap[b]?) : RowAt w' b c e xs := by obtain ⟨cur, h1, h2⟩ := h; exact ⟨cur, g.trans h1, h2⟩
theorem RowAt.touch {S : Nat → Prop} (h : RowAt w b c e xs) (g : Touch S w w') (hn : ¬ S b) : RowAt w' b c e xs := by obtain ⟨cur, h1, h2⟩ := h; exact ⟨cur, g.heap h1 hn, h2⟩
theorem RowAt.put (h : RowAt w b c e xs) {j : Nat} (hj : j < xs.length) (v : Value) : RowAt (w.setCell ⟨b, j, none⟩ v) b c e (xs.set j v) := by
  obtain ⟨cur, h1, h2, h3, h4⟩ := h
  refine ⟨_, heap_setCell_same w b j cur e v h1, by simp [h2], by simpa using h3, ?_⟩
  rw [List.length_set, Array.toList_setIfInBounds, List.take_set, h4]
theorem RowAt.other (h : RowAt w b c e xs) {g j : Nat} (hg : b ≠ g) (v : Value) : RowAt (w.setCell ⟨g, j, none⟩ v) b c e xs := h.of_heap (Below.heap_setCell w ⟨g, j, none⟩ v b hg)
theorem RowAt.own {n : Nat} (h : w.ownsRow 0 e 1 (.slice (some ⟨b, 0, none⟩) n c) n xs) : RowAt w b c e xs := by
  obtain ⟨hl, h⟩ := h
  rcases h with ⟨h, _⟩ | ⟨g, cap, cur, h, _, hg, hnc, hcm, hcs, htake⟩
  · cases h
  · cases h
    have hl' : xs.length = n := by rw [hl, Nat.mul_one]
    refine ⟨cur, hg, by rw [hcs, Nat.mul_one], by omega, ?_⟩
    rw [Nat.mul_one] at htake
    rw [hl']; exact htake
end

/-- The numbers' blocks, in a row. -/
def lst {α : Type} (n : Nat) (f : Int → Option α) (z : α) : List α := (List.range n).map fun i : Nat => (f (i : Int)).getD z
theorem lst_length {α : Type} (n : Nat) (f : Int → Option α) (z : α) : (lst n f z).length = n := by simp [lst]
theorem lst_get {α : Type} (n : Nat) (f : Int → Option α) (z : α) (i : Nat) (h : i < n) : (lst n f z)[i]? = some ((f (i : Int)).getD z) := by simp [lst, h]
theorem lst_set {α : Type} (n : Nat) (f g : Int → Option α) (z x : α) (i : Nat) (hi : g (i : Int) = some x) (hg : ∀ k : Int, k ≠ (i : Int) → g k = f k) : (lst n f z).set i x = lst n g z := by
  apply List.ext_getElem?
  intro j
  rw [List.getElem?_set]
  by_cases hj : j < n
  · rw [lst_get _ _ _ _ hj]
    by_cases h : i = j
    · subst h; rw [if_pos rfl, lst_length, if_pos hj, lst_get _ _ _ _ hj, hi]; rfl
    · rw [if_neg h, lst_get _ _ _ _ hj, hg _ (by omega)]
  · have e1 : (lst n f z)[j]? = none := List.getElem?_eq_none (by rw [lst_length]; omega)
    have e2 : (lst n g z)[j]? = none := List.getElem?_eq_none (by rw [lst_length]; omega)
    rw [e1, e2]
    split
    · rw [lst_length, if_neg (by omega)]
    · rfl
def strV (l : List UInt8) : Value := .string (strB l)

/-- The document's disk at block r, that is as the model d; steps fail that are named in F. Its blocks are of R. -/
structure RefAt (w : World) (R : Nat → Prop) (r : Nat) (d : DM) (F : List Int) (X : Value) (L cL S cS Q cQ : Nat) (qs : List Value) : Prop where
  box : w.heap[r]? = some (.cells #[.slice (some ⟨L, 0, none⟩) d.size cL, .slice (some ⟨S, 0, none⟩) d.size cS, .slice (some ⟨Q, 0, none⟩) d.size cQ, X, .int .i64 (d.steps : Int)] 33 (0, 0))
  lasting : RowAt w L cL 9 ((lst d.size d.lasting zblk).map strV)
  seen : RowAt w S cS 9 ((lst d.size d.seen zblk).map strV)
  since : RowAt w Q cQ 29 qs
  len : qs.length = d.size
  each : ∀ (i : Nat) q, qs[i]? = some q → w.ownsRow 0 9 1 q ((d.since (i : Int)).getD []).length (((d.since (i : Int)).getD []).map strV) ∧ ∀ b, q.ownBlock = some b → R b ∧ b ∉ [r, L, S, Q] ∧ X.ownBlock ≠ some b
  fails : w.ownsRow 0 3 1 X F.length (F.map (.int .i64))
  far : ∀ b, X.ownBlock = some b → R b ∧ b ∉ [r, L, S, Q]
  nodup : [r, L, S, Q].Nodup
  foot : ∀ b ∈ [r, L, S, Q], R b
  agree : ∀ k, (d.fails k).isSome = F.contains k
def Ref (w : World) (R : Nat → Prop) (r : Nat) (d : DM) (F : List Int) : Prop := ∃ X L cL S cS Q cQ qs, RefAt w R r d F X L cL S cS Q cQ qs
section
variable {w w' : World} {R : Nat → Prop} {r : Nat} {d : DM} {F : List Int} {X : Value} {L cL S cS Q cQ : Nat} {qs : List Value}
theorem RefAt.lt (h : RefAt w R r d F X L cL S cS Q cQ qs) : r < w.heap.size := (Array.getElem?_eq_some_iff.1 h.box).1
theorem RefAt.mono {R' : Nat → Prop} (h : RefAt w R r d F X L cL S cS Q cQ qs) (hs : ∀ b, R b → R' b) : RefAt w R' r d F X L cL S cS Q cQ qs :=
  ⟨h.box, h.lasting, h.seen, h.since, h.len, fun i q hq => ⟨(h.each i q hq).1, fun b hb => ⟨hs b ((h.each i q hq).2 b hb).1, ((h.each i q hq).2 b hb).2⟩⟩, h.fails, fun b hb => ⟨hs b (h.far b hb).1, (h.far b hb).2⟩, h.nodup, fun b hb => hs b (h.foot b hb), h.agree⟩
theorem RefAt.touch {T : Nat → Prop} (h : RefAt w R r d F X L cL S cS Q cQ qs) (g : Touch T w w') (hs : ∀ b, R b → ¬ T b) : RefAt w' R r d F X L cL S cS Q cQ qs :=
  ⟨g.heap h.box (hs _ (h.foot r (by simp))), h.lasting.touch g (hs _ (h.foot L (by simp))), h.seen.touch g (hs _ (h.foot S (by simp))), h.since.touch g (hs _ (h.foot Q (by simp))), h.len,
   fun i q hq => ⟨ownsRow_heap (h.each i q hq).1 fun b hb => g.block b ((h.each i q hq).1.lt b hb).2 (hs b ((h.each i q hq).2 b hb).1), (h.each i q hq).2⟩,
   ownsRow_heap h.fails fun b hb => g.block b (h.fails.lt b hb).2 (hs b (h.far b hb).1), h.far, h.nodup, h.foot, h.agree⟩
theorem Ref.touch {T : Nat → Prop} (h : Ref w R r d F) (g : Touch T w w') (hs : ∀ b, R b → ¬ T b) : Ref w' R r d F := by
  obtain ⟨X, L, cL, S, cS, Q, cQ, qs, h⟩ := h; exact ⟨X, L, cL, S, cS, Q, cQ, qs, h.touch g hs⟩
theorem Ref.mono {R' : Nat → Prop} (h : Ref w R r d F) (hs : ∀ b, R b → R' b) : Ref w R' r d F := by
  obtain ⟨X, L, cL, S, cS, Q, cQ, qs, h⟩ := h; exact ⟨X, L, cL, S, cS, Q, cQ, qs, h.mono hs⟩
theorem RefAt.below (h : RefAt w R r d F X L cL S cS Q cQ qs) (g : Below w.heap.size w w') : RefAt w' R r d F X L cL S cS Q cQ qs :=
  h.mono (fun _ h => h) |>.touch (T := fun b => w.heap.size ≤ b ∧ False) (Touch.of_below g fun b hb hle => by omega) (fun _ _ h => h.2)
theorem RefAt.failing (h : RefAt w R r d F X L cL S cS Q cQ qs) {N : Nat} (hB : FailB d N) : d.failing = F.contains (d.steps : Int) := by rw [hB.failing, h.agree]
/-- What a store into the box keeps. -/
theorem RefAt.steps (h : RefAt w R r d F X L cL S cS Q cQ qs) : RefAt (w.setCell ⟨r, 4, none⟩ (.int .i64 ((d.steps : Int) + 1))) R r d.stepped F X L cL S cS Q cQ qs := by
  have hn := h.nodup
  simp only [List.nodup_cons, List.mem_cons, List.not_mem_nil, or_false, not_or] at hn
  have ho : ∀ b, b ≠ r → (w.setCell ⟨r, 4, none⟩ (.int .i64 ((d.steps : Int) + 1))).heap[b]? = w.heap[b]? := fun b hb => Below.heap_setCell w ⟨r, 4, none⟩ _ b hb
  have hne : ∀ b, b ∉ [r, L, S, Q] → b ≠ r := fun b hb e => hb (by simp [e])
  refine ⟨?_, h.lasting.of_heap (ho _ fun e => hn.1.1 e.symm), h.seen.of_heap (ho _ fun e => hn.1.2.1 e.symm), h.since.of_heap (ho _ fun e => hn.1.2.2 e.symm), h.len, fun i q hq => ⟨ownsRow_heap (h.each i q hq).1 fun b hb => ho b (hne b ((h.each i q hq).2 b hb).2.1), (h.each i q hq).2⟩, ownsRow_heap h.fails fun b hb => ho b (hne b (h.far b hb).2), h.far, h.nodup, h.foot, h.agree⟩
  rw [heap_setCell_same w r 4 _ _ _ h.box]; rfl
end

set_option maxRecDepth 100000 in
set_option maxHeartbeats 1000000 in
theorem ref_step {w : World} {R : Nat → Prop} {r : Nat} {d : DM} {F : List Int} {X : Value} {L cL S cS Q cQ : Nat} {qs : List Value} (h : RefAt w R r d F X L cL S cS Q cQ qs) {N : Nat} (hB : FailB d N) (hst : d.steps < 1073741824) (hF : F.length ≤ 1000000) :
    Calls Try.prog 47 #[.pointer (some ⟨r, 0, none⟩)] w fun e w' => e = .returned (.bool d.failing) ∧ RefAt w' R r d.stepped F X L cL S cS Q cQ qs ∧ Touch R w w' := by
  have hf := h.failing hB
  have hs := h.steps
  have hT : Touch R w (w.setCell ⟨r, 4, none⟩ (.int .i64 ((d.steps : Int) + 1))) := (Touch.refl R w).setCell (.inl (h.foot r (by simp))) _
  have c4 : w.cell? ⟨r, 4, none⟩ = some (.int .i64 (d.steps : Int)) := cellOf h.box rfl
  have f4 : w.frozen? ⟨r, 4, none⟩ = false := freeOf h.box
  obtain ⟨a, cx, rfl, hXc⟩ : ∃ a cx, X = .slice a F.length cx ∧ ∀ (j : Nat) (u : Int), F[j]? = some u → ∃ g, a = some ⟨g, 0, none⟩ ∧ (w.setCell ⟨r, 4, none⟩ (.int .i64 ((d.steps : Int) + 1))).cell? ⟨g, j, none⟩ = some (.int .i64 u) := by
    have hx := hs.fails
    rcases hx.2 with ⟨rfl, h0⟩ | ⟨g, cap, cur, rfl, _⟩
    · refine ⟨none, 0, by rw [h0], fun j u hu => ?_⟩
      rw [List.length_eq_zero_iff.1 h0] at hu; simp at hu
    · refine ⟨some ⟨g, 0, none⟩, cap, rfl, fun j u hu => ⟨g, rfl, ?_⟩⟩
      have := hx.cells (g := g) rfl j (.int .i64 u) (by simp [hu])
      rw [addr_add, Nat.zero_add] at this; exact this
  have c3 : (w.setCell ⟨r, 4, none⟩ (.int .i64 ((d.steps : Int) + 1))).cell? ⟨r, 3, none⟩ = some (.slice a F.length cx) := cellOf hs.box rfl
  generalize hW : w.setCell ⟨r, 4, none⟩ (.int .i64 ((d.steps : Int) + 1)) = W at *
  have HF := Lib.hid (And.intro hs hT)
  have Hf := Lib.hid hf
  have HX := Lib.hid hXc
  clear h hs hT hf hXc hB
  go_enter Try.func47, Try.ntmps47
  go_wp2
  go_loop [4] (fun i => ∃ k : Nat, k ≤ F.length ∧ i = .int .i64 (k : Int) ∧ (F.take k).contains (d.steps : Int) = false) (fun i => F.length - (intOf i).toNat)
  case atStart => exact ⟨0, Nat.zero_le _, rfl, by simp⟩
  case round =>
    obtain ⟨k, hk, rfl, hno⟩ := hrel
    by_cases hlt : k < F.length
    · obtain ⟨g, rfl, hcell⟩ := HX.out k F[k] (by simp [hlt])
      have htk : (F.take (k + 1)).contains (d.steps : Int) = ((F.take k).contains (d.steps : Int) || ((d.steps : Int) == F[k])) := by
        rw [List.take_succ_eq_append_getElem hlt, List.contains_append, List.contains_cons, List.contains_nil, Bool.or_false]
      have hin : F[k] ∈ F := List.getElem_mem hlt
      generalize F[k] = u at *
      by_cases he : u = (d.steps : Int)
      · have e : d.failing = true := by rw [Hf.out]; rw [he] at hin; simpa using hin
        have He := Lib.hid e
        have c1 : (u == (d.steps : Int)) = true := by simpa using he
        clear htk hin hno e he
        go_wp2
        go_ret
        exact ⟨ret_bool He.out.symm, HF.out.1, HF.out.2⟩
      · have c1 : (u == (d.steps : Int)) = false := by simpa using he
        have e : (F.take (k + 1)).contains (d.steps : Int) = false := by rw [htk, hno]; simpa using fun h => he h.symm
        have He := Lib.hid e
        clear htk hin hno e he
        go_wp2
        go_round
        case rel => exact ⟨k + 1, by omega, by go_num, He.out⟩
        case measure => simp [intOf]; omega
    · have e : d.failing = false := by rw [Hf.out, ← hno, List.take_of_length_le (by omega)]
      have He := Lib.hid e
      clear hno e
      go_wp2
      go_ret
      exact ⟨ret_bool He.out.symm, HF.out.1, HF.out.2⟩
end Go.Proofs.Ytmgajgeoibbmjaa
