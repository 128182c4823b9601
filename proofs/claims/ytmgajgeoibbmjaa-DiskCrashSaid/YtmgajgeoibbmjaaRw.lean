/- The document's disk: Write. Printed by gen_rw.py. -/
import Derived.Test.YtmgajgeoibbmjaaRnew
namespace Go.Proofs.Ytmgajgeoibbmjaa
open Go.RowKit

/-- A row is copied. -/
theorem copy_row {w : World} {q : Value} {n : Nat} {xs : List Value} (h : w.ownsRow 0 9 1 q n xs) (h1 : ∀ u ∈ xs, u.oneCell' = true) (hn : n ≤ 1000000) (ty : TypeId) :
    ∃ q1 w', (Builtin.append_ #[29, 29] ty #[.slice none 0 0, q]).run Try.prog w = .ok q1 w' ∧ w'.ownsRow 0 9 1 q1 n xs ∧ Below w.heap.size w w' ∧ ∀ g, q1.ownBlock = some g → w.heap.size ≤ g := by
  obtain ⟨i, i1, i2, i3, i4⟩ := info_st
  have hx := h
  rcases h.2 with ⟨rfl, rfl⟩ | ⟨g, cap, cur, rfl, _⟩
  · refine ⟨_, _, append_law_nil 29 ty 9 i 1 Try.underlying29 i1 i3 _ 0 [] (World.ownsRow_nil _ _ _ _), hx, Below.refl _ _, fun g h => absurd h (by simp [Value.ownBlock])⟩
  · obtain ⟨v', w', a1, a2, a3, a4, a5⟩ := append_law (P := Try.prog) 29 ty 9 i _ 1 16 Try.underlying29 i1 i2 i3 i4 rfl (.slice none 0 0) 0 [] (World.ownsRow_nil w 0 _ 1) ⟨g, 0, none⟩ n cap xs (by rw [h.1]) (hx.cells (g := g) rfl) h1 (by unfold maxLen; omega) (by omega)
    rw [Nat.zero_add, List.nil_append] at a2
    refine ⟨v', w', a1, a2, a3.toBelow (Nat.le_refl _) (fun b _ e => by simp [Value.ownBlock] at e), fun g hg => ?_⟩
    rcases a4 with e | e
    · rw [e] at hg; simp [Value.ownBlock] at hg
    · rw [e] at hg; simp at hg; omega
theorem strV_one (ls : List (List UInt8)) : ∀ u ∈ ls.map strV, u.oneCell' = true := by
  intro u hu; simp only [List.mem_map] at hu; obtain ⟨l, _, rfl⟩ := hu; rfl

section
variable {w w' : World} {R : Nat → Prop} {r : Nat} {d d' : DM} {F : List Int} {X : Value} {L cL S cS Q cQ : Nat} {qs : List Value}
theorem RefAt.putQ (h : RefAt w R r d F X L cL S cS Q cQ qs) (i : Nat) (hi : i < d.size) (q : Value) (ls : List (List UInt8)) (hown : w.ownsRow 0 9 1 q ls.length (ls.map strV)) (hfar : ∀ b, q.ownBlock = some b → R b ∧ b ∉ [r, L, S, Q] ∧ X.ownBlock ≠ some b)
    (e1 : d'.size = d.size) (e2 : d'.lasting = d.lasting) (e3 : d'.seen = d.seen) (e4 : d'.steps = d.steps) (e5 : d'.fails = d.fails) (e6 : (d'.since (i : Int)).getD [] = ls) (e7 : ∀ k : Int, k ≠ (i : Int) → d'.since k = d.since k) :
    RefAt (w.setCell ⟨Q, i, none⟩ q) R r d' F X L cL S cS Q cQ (qs.set i q) := by
  have hn := h.nodup
  simp only [List.nodup_cons, List.mem_cons, List.not_mem_nil, or_false, not_or] at hn
  have ho : ∀ b, b ≠ Q → (w.setCell ⟨Q, i, none⟩ q).heap[b]? = w.heap[b]? := fun b hb => Below.heap_setCell w ⟨Q, i, none⟩ _ b hb
  have hne : ∀ b, b ∉ [r, L, S, Q] → b ≠ Q := fun b hb e => hb (by simp [e])
  refine ⟨?_, ?_, ?_, h.since.put (by rw [h.len]; exact hi) q, by rw [List.length_set, h.len, e1], fun j p hp => ?_, ownsRow_heap h.fails fun b hb => ho b (hne b (h.far b hb).2), h.far, h.nodup, h.foot, by rw [e5]; exact h.agree⟩
  · rw [e1, e4]; exact (ho r hn.1.2.2).trans h.box
  · rw [e1, e2]; exact h.lasting.of_heap (ho L hn.2.1.2)
  · rw [e1, e3]; exact h.seen.of_heap (ho S hn.2.2.1)
  · rw [List.getElem?_set] at hp
    by_cases hj : i = j
    · subst hj
      rw [if_pos rfl] at hp
      split at hp
      · cases hp
        rw [e6]
        exact ⟨ownsRow_heap hown fun b hb => ho b (hne b (hfar b hb).2.1), hfar⟩
      · cases hp
    · rw [if_neg hj] at hp
      rw [e7 j (by omega)]
      exact ⟨ownsRow_heap (h.each j p hp).1 fun b hb => ho b (hne b ((h.each j p hp).2 b hb).2.1), (h.each j p hp).2⟩
theorem RefAt.putS (h : RefAt w R r d F X L cL S cS Q cQ qs) (i : Nat) (hi : i < d.size) (x : List UInt8)
    (e1 : d'.size = d.size) (e2 : d'.lasting = d.lasting) (e3 : d'.seen (i : Int) = some x) (e4 : d'.steps = d.steps) (e5 : d'.fails = d.fails) (e6 : d'.since = d.since) (e7 : ∀ k : Int, k ≠ (i : Int) → d'.seen k = d.seen k) :
    RefAt (w.setCell ⟨S, i, none⟩ (strV x)) R r d' F X L cL S cS Q cQ qs := by
  have hn := h.nodup
  simp only [List.nodup_cons, List.mem_cons, List.not_mem_nil, or_false, not_or] at hn
  have ho : ∀ b, b ≠ S → (w.setCell ⟨S, i, none⟩ (strV x)).heap[b]? = w.heap[b]? := fun b hb => Below.heap_setCell w ⟨S, i, none⟩ _ b hb
  have hne : ∀ b, b ∉ [r, L, S, Q] → b ≠ S := fun b hb e => hb (by simp [e])
  refine ⟨?_, ?_, ?_, h.since.of_heap (ho Q fun e => hn.2.2.1 e.symm), by rw [h.len, e1], fun j p hp => ?_, ownsRow_heap h.fails fun b hb => ho b (hne b (h.far b hb).2), h.far, h.nodup, h.foot, by rw [e5]; exact h.agree⟩
  · rw [e1, e4]; exact (ho r hn.1.2.1).trans h.box
  · rw [e1, e2]; exact h.lasting.of_heap (ho L hn.2.1.1)
  · have := h.seen.put (j := i) (by rw [List.length_map, lst_length]; exact hi) (strV x)
    rw [← List.map_set, lst_set d.size d.seen d'.seen zblk x i e3 e7] at this
    rw [e1]; exact this
  · rw [e6]
    exact ⟨ownsRow_heap (h.each j p hp).1 fun b hb => ho b (hne b ((h.each j p hp).2 b hb).2.1), (h.each j p hp).2⟩
theorem RefAt.putL (h : RefAt w R r d F X L cL S cS Q cQ qs) (i : Nat) (hi : i < d.size) (x : List UInt8)
    (e1 : d'.size = d.size) (e2 : d'.seen = d.seen) (e3 : (d'.lasting (i : Int)).getD zblk = x) (e4 : d'.steps = d.steps) (e5 : d'.fails = d.fails) (e6 : d'.since = d.since) (e7 : ∀ k : Int, k ≠ (i : Int) → d'.lasting k = d.lasting k) :
    RefAt (w.setCell ⟨L, i, none⟩ (strV x)) R r d' F X L cL S cS Q cQ qs := by
  have hn := h.nodup
  simp only [List.nodup_cons, List.mem_cons, List.not_mem_nil, or_false, not_or] at hn
  have ho : ∀ b, b ≠ L → (w.setCell ⟨L, i, none⟩ (strV x)).heap[b]? = w.heap[b]? := fun b hb => Below.heap_setCell w ⟨L, i, none⟩ _ b hb
  have hne : ∀ b, b ∉ [r, L, S, Q] → b ≠ L := fun b hb e => hb (by simp [e])
  refine ⟨?_, ?_, ?_, h.since.of_heap (ho Q fun e => hn.2.1.2 e.symm), by rw [h.len, e1], fun j p hp => ?_, ownsRow_heap h.fails fun b hb => ho b (hne b (h.far b hb).2), h.far, h.nodup, h.foot, by rw [e5]; exact h.agree⟩
  · rw [e1, e4]; exact (ho r hn.1.1).trans h.box
  · have := h.lasting.put (j := i) (by rw [List.length_map, lst_length]; exact hi) (strV x)
    rw [← List.map_set] at this
    rw [e1]
    have e : (lst d.size d.lasting zblk).set i x = lst d.size d'.lasting zblk := by
      rw [lst_set d.size d.lasting (fun k => if k = (i : Int) then some x else d.lasting k) zblk x i (by simp) (fun k hk => by simp [hk])]
      unfold lst
      refine List.map_congr_left fun j hj => ?_
      by_cases hji : (j : Int) = (i : Int)
      · simp only [hji, if_true, Option.getD_some, e3]
      · simp only [hji, if_false, e7 _ hji]
    rw [← e]; exact this
  · rw [e1, e2]; exact h.seen.of_heap (ho S fun e => hn.2.1.1 e.symm)
  · rw [e6]
    exact ⟨ownsRow_heap (h.each j p hp).1 fun b hb => ho b (hne b ((h.each j p hp).2 b hb).2.1), (h.each j p hp).2⟩
/-- What is at hand of a row that lies at index i. -/
theorem RefAt.at (h : RefAt w R r d F X L cL S cS Q cQ qs) (i : Nat) (hi : i < d.size) : ∃ q, qs[i]? = some q ∧ w.cell? ⟨Q, i, none⟩ = some q := by
  have : i < qs.length := by rw [h.len]; exact hi
  exact ⟨qs[i], by simp [this], h.since.cell (by simp [this])⟩
theorem RefAt.seenAt (h : RefAt w R r d F X L cL S cS Q cQ qs) (i : Nat) (hi : i < d.size) : w.cell? ⟨S, i, none⟩ = some (strV ((d.seen (i : Int)).getD zblk)) :=
  h.seen.cell (by rw [List.getElem?_map, lst_get _ _ _ _ hi]; rfl)
theorem RefAt.lastAt (h : RefAt w R r d F X L cL S cS Q cQ qs) (i : Nat) (hi : i < d.size) : w.cell? ⟨L, i, none⟩ = some (strV ((d.lasting (i : Int)).getD zblk)) :=
  h.lasting.cell (by rw [List.getElem?_map, lst_get _ _ _ _ hi]; rfl)
end
theorem wrote_later (d : DM) (f : Bool) (at_ : Nat) (l : List UInt8) (k : Nat) (j : Int) (h : ((at_ + k : Nat) : Int) ≤ j) : (d.wrote f at_ l k).since j = d.since j := by
  show (if (at_ : Int) ≤ j ∧ j < at_ + k then _ else d.since j) = d.since j
  rw [if_neg (by omega)]
theorem wrote_seen_next (d : DM) (f : Bool) (at_ : Nat) (l : List UInt8) (k : Nat) (j : Int) (h : j ≠ ((at_ + k : Nat) : Int)) : (d.wrote f at_ l (k + 1)).seen j = (d.wrote f at_ l k).seen j := by
  show (if f = false ∧ (at_ : Int) ≤ j ∧ j < at_ + (k + 1 : Nat) then some (blkOf l (j - at_).toNat) else d.seen j) = (if f = false ∧ (at_ : Int) ≤ j ∧ j < at_ + (k : Nat) then some (blkOf l (j - at_).toNat) else d.seen j)
  by_cases h1 : f = false ∧ (at_ : Int) ≤ j ∧ j < at_ + (k : Nat)
  · rw [if_pos h1, if_pos ⟨h1.1, h1.2.1, by omega⟩]
  · rw [if_neg h1, if_neg (fun h2 => h1 ⟨h2.1, h2.2.1, by omega⟩)]
theorem wrote_seen_at (d : DM) (at_ : Nat) (l : List UInt8) (k : Nat) : (d.wrote false at_ l (k + 1)).seen ((at_ + k : Nat) : Int) = some (blkOf l k) := by
  show (if false = false ∧ (at_ : Int) ≤ ((at_ + k : Nat) : Int) ∧ ((at_ + k : Nat) : Int) < at_ + (k + 1 : Nat) then some (blkOf l (((at_ + k : Nat) : Int) - at_).toNat) else d.seen _) = _
  rw [if_pos ⟨rfl, by omega, by omega⟩]
  congr 2; omega
theorem wrote_seen_fail (d : DM) (at_ : Nat) (l : List UInt8) (k : Nat) : (d.wrote true at_ l k).seen = d.seen := by
  funext j
  show (if true = false ∧ (at_ : Int) ≤ j ∧ j < at_ + k then some (blkOf l (j - at_).toNat) else d.seen j) = d.seen j
  rw [if_neg (fun h => by cases h.1)]

theorem RefAt.appended {w V V2 : World} {R : Nat → Prop} {r : Nat} {d : DM} {F : List Int} {X : Value} {L cL S cS Q cQ : Nat} {qs : List Value} {f : Bool} {at_ : Nat} {l : List UInt8} {k : Nat} {g c : Nat}
    (h : RefAt V (fun b => R b ∨ w.heap.size ≤ b) r (d.wrote f at_ l k) F X L cL S cS Q cQ qs) (hi : at_ + k < d.size) (hT : Touch (fun _ => False) V V2)
    (hown : V2.ownsRow 0 9 1 (.slice (some ⟨g, 0, none⟩) (((d.since ((at_ + k : Nat) : Int)).getD []).length + 1) c) (((d.since ((at_ + k : Nat) : Int)).getD []).length + 1) (((d.since ((at_ + k : Nat) : Int)).getD []).map strV ++ [strV (blkOf l k)])) (hg : V.heap.size ≤ g) (hwV : w.heap.size ≤ V.heap.size) :
    RefAt (V2.setCell ⟨Q, at_ + k, none⟩ (.slice (some ⟨g, 0, none⟩) (((d.since ((at_ + k : Nat) : Int)).getD []).length + 1) c)) (fun b => R b ∨ w.heap.size ≤ b) r { d.wrote f at_ l k with since := (d.wrote f at_ l (k + 1)).since } F X L cL S cS Q cQ (qs.set (at_ + k) (.slice (some ⟨g, 0, none⟩) (((d.since ((at_ + k : Nat) : Int)).getD []).length + 1) c)) := by
  have h2 := h.touch hT (fun _ _ h => h)
  refine h2.putQ (at_ + k) hi _ ((d.since ((at_ + k : Nat) : Int)).getD [] ++ [blkOf l k]) ?_ ?_ rfl rfl rfl rfl rfl ?_ ?_
  · rw [List.length_append, List.map_append]; exact hown
  · intro b hb
    simp [Value.ownBlock] at hb
    subst hb
    refine ⟨.inr (by omega), ?_, fun e => ?_⟩
    · have a1 := h.lt
      have a2 := h.lasting.lt
      have a3 := h.seen.lt
      have a4 := h.since.lt
      simp only [List.mem_cons, List.not_mem_nil, or_false, not_or]
      omega
    · have := (h.fails.lt g e).2; omega
  · show ((d.wrote f at_ l (k + 1)).since ((at_ + k : Nat) : Int)).getD [] = _
    rw [DM.wrote_since, if_pos rfl]; rfl
  · intro j hj
    show (d.wrote f at_ l (k + 1)).since j = (d.wrote f at_ l k).since j
    rw [DM.wrote_since, if_neg hj]

theorem append_cell {P : Program} {w : World} (t ty e : TypeId) (i : TypeInfo) (z : Value) (bytes : Nat) (ht : P.underlying t = some (.slice e)) (hi : P.info? e = some i) (hz : i.zero = some z) (hsize : i.size = 1) (hby : i.bytes = bytes) (hzs : z.cells.size = 1) (hb8 : bytes ≤ 64)
    {v : Value} {n : Nat} {xs : List Value} (hown : w.ownsRow 0 e 1 v n xs) (u : Value) (h1 : u.oneCell' = true) (hn : n + 1 ≤ 1000000) (y : Nat) (hy : w.cell? ⟨y, 0, none⟩ = some u) :
    ∃ g c w', (Builtin.append_ #[t, t] ty #[v, .slice (some ⟨y, 0, none⟩) 1 1]).run P w = .ok (.slice (some ⟨g, 0, none⟩) (n + 1) c) w' ∧ w'.ownsRow 0 e 1 (.slice (some ⟨g, 0, none⟩) (n + 1) c) (n + 1) (xs ++ [u]) ∧
      Touch (fun b => v.ownBlock = some b) w w' ∧ (v.ownBlock = some g ∨ w.heap.size ≤ g) := by
  obtain ⟨v', w', a1, a2, a3, a4, a5⟩ := append_law (P := P) t ty e i z 1 bytes ht hi hz hsize hby hzs v n xs hown ⟨y, 0, none⟩ 1 1 [u] rfl (by
    intro j x hx
    cases j with
    | zero => simp at hx; subst hx; rw [addr_add]; exact hy
    | succ j => simp at hx) (by intro x hx; simp at hx; subst hx; exact h1) (by unfold maxLen; omega) (by have : (n + 1) * bytes ≤ 1000000 * 64 := Nat.mul_le_mul hn hb8; omega)
  obtain ⟨g, cap, rfl⟩ := ownsRow_succ a2
  refine ⟨g, cap, w', a1, a2, a3, ?_⟩
  rcases a4 with h | h
  · left; rw [← h]; rfl
  · right; simp [Value.ownBlock] at h; omega
/-- A row is copied, and one more is put behind it; the one more lies there first, or last. -/
theorem copy_last {w : World} {q : Value} {n : Nat} {xs : List Value} (h : w.ownsRow 0 9 1 q n xs) (h1 : ∀ u ∈ xs, u.oneCell' = true) (hn : n + 1 ≤ 1000000) (ty ty' : TypeId) (u : Value) (hu : u.oneCell' = true) :
    ∃ q1 V1 g c V2, (Builtin.append_ #[29, 29] ty #[.slice none 0 0, q]).run Try.prog w = .ok q1 V1 ∧ Below w.heap.size w V1 ∧ (Builtin.append_ #[29, 29] ty' #[q1, .slice (some ⟨V1.heap.size, 0, none⟩) 1 1]).run Try.prog (V1.alloc (.cells #[u] 9)) = .ok (.slice (some ⟨g, 0, none⟩) (n + 1) c) V2 ∧
      V2.ownsRow 0 9 1 (.slice (some ⟨g, 0, none⟩) (n + 1) c) (n + 1) (xs ++ [u]) ∧ Touch (fun _ => False) w V2 ∧ w.heap.size ≤ g := by
  obtain ⟨q1, V1, a1, a2, a3, a4⟩ := copy_row h h1 (by omega) ty
  obtain ⟨i, i1, i2, i3, i4⟩ := info_st
  obtain ⟨g, c, V2, b1, b2, b3, b4⟩ := append_one (P := Try.prog) 29 ty' 9 i _ 16 Try.underlying29 i1 i2 i3 i4 rfl (by omega) a2 u hu hn
  refine ⟨q1, V1, g, c, V2, a1, a3, b1, b2, (Touch.of_below a3 (fun b h1 h2 => by omega)).step b3 (fun b hb e => by have := a4 b e; omega), ?_⟩
  rcases b4 with e | e
  · exact a4 g e
  · have := a3.size; omega
theorem copy_first {w : World} {q : Value} {n : Nat} {xs : List Value} (h : w.ownsRow 0 9 1 q n xs) (h1 : ∀ u ∈ xs, u.oneCell' = true) (hn : n + 1 ≤ 1000000) (ty ty' : TypeId) (u : Value) (hu : u.oneCell' = true) :
    ∃ q1 V1 g c V2, (Builtin.append_ #[29, 29] ty #[.slice none 0 0, q]).run Try.prog (w.alloc (.cells #[u] 9)) = .ok q1 V1 ∧ Below w.heap.size w V1 ∧ (Builtin.append_ #[29, 29] ty' #[q1, .slice (some ⟨w.heap.size, 0, none⟩) 1 1]).run Try.prog V1 = .ok (.slice (some ⟨g, 0, none⟩) (n + 1) c) V2 ∧
      V2.ownsRow 0 9 1 (.slice (some ⟨g, 0, none⟩) (n + 1) c) (n + 1) (xs ++ [u]) ∧ Touch (fun _ => False) w V2 ∧ w.heap.size ≤ g := by
  have h0 : (w.alloc (.cells #[u] 9)).ownsRow 0 9 1 q n xs := ownsRow_heap h fun g hg => by rw [heap_get_alloc, if_neg (by have := (h.lt g hg).2; omega)]
  obtain ⟨q1, V1, a1, a2, a3, a4⟩ := copy_row h0 h1 (by omega) ty
  have hy : (w.alloc (.cells #[u] 9)).cell? ⟨w.heap.size, 0, none⟩ = some u := cellOf (heap_alloc_new _ _) rfl
  have hB0 : Below w.heap.size w (w.alloc (.cells #[u] 9)) := (Below.refl _ _).alloc (Nat.le_refl _) _
  have hB : Below w.heap.size w V1 := hB0.trans (a3.mono hB0.size)
  obtain ⟨i, i1, i2, i3, i4⟩ := info_st
  obtain ⟨g, c, V2, b1, b2, b3, b4⟩ := append_cell (P := Try.prog) 29 ty' 9 i _ 16 Try.underlying29 i1 i2 i3 i4 rfl (by omega) a2 u hu hn w.heap.size (belowCell a3 (ltOf hy) hy)
  have hs : w.heap.size ≤ (w.alloc (.cells #[u] 9)).heap.size := hB0.size
  refine ⟨q1, V1, g, c, V2, a1, hB, b1, b2, (Touch.of_below hB (fun b h1 h2 => by omega)).step b3 (fun b hb e => by have := a4 b e; omega), ?_⟩
  rcases b4 with e | e
  · have := a4 g e; omega
  · have := hB.size; omega
theorem wrote_fail_eq (d : DM) (at_ : Nat) (l : List UInt8) (k : Nat) : ({ d.wrote true at_ l k with since := (d.wrote true at_ l (k + 1)).since } : DM) = d.wrote true at_ l (k + 1) := by
  have h := (wrote_seen_fail d at_ l k).trans (wrote_seen_fail d at_ l (k + 1)).symm
  show DM.mk _ _ (d.wrote true at_ l k).seen _ _ _ = DM.mk _ _ (d.wrote true at_ l (k + 1)).seen _ _ _
  rw [h]; rfl

set_option maxRecDepth 100000 in
set_option maxHeartbeats 4000000 in
theorem ref_write {w : World} {R : Nat → Prop} {r : Nat} {d : DM} {F : List Int} {X : Value} {L cL S cS Q cQ : Nat} {qs : List Value} (h : RefAt w R r d F X L cL S cS Q cQ qs) (hR : ∀ b, R b → b < w.heap.size) (hok : d.Ok) {N : Nat} (hB : FailB d N) (hst : d.steps ≤ 100000) (hF : F.length ≤ 1000000)
    (at_ m : Nat) (l : List UInt8) (hl : l.length = 512 * m) (hm : at_ + m ≤ d.size) :
    Calls Try.prog 24 #[.pointer (some ⟨r, 0, none⟩), .int .i64 (at_ : Int), .string (strB l)] w fun e w' => e = .returned (.int .i64 (d.write at_ l m).2) ∧ Ref w' (fun b => R b ∨ w.heap.size ≤ b) r (d.write at_ l m).1 F ∧ Touch R w w' := by
  have hst0 := ref_step h hB (by omega) hF
  have hbl : ∀ k : Nat, k < m → ∀ W : World, (Instr.sliceAt 9 (.string (strB l)) (some (.int .i64 ((k : Int) * 512))) (some (.int .i64 ((k : Int) * 512 + 512))) none).run Try.prog W = .ok (.string (strB (blkOf l k))) W := by
    intro k hk W
    have := str_slice l (some ((k : Int) * 512)) (some ((k : Int) * 512 + 512)) (512 * k) (512 * k + 512) (fun x h => by cases h; omega) (by simp) (fun x h => by cases h; omega) (by simp) (by omega) (by omega) W
    have e : 512 * k + 512 - 512 * k = 512 := by omega
    rw [e] at this
    exact this
  have Hbl := Lib.hid hbl
  have Hlen := Lib.hid hl
  have hw2 : d.write at_ l m = (d.stepped.wrote d.failing at_ l m, if d.failing then 300 else 0) := rfl
  rw [hw2]
  clear hbl hw2
  have hsz := hok.most
  have HS := Lib.hid hst0
  have c1 : w.cell? ⟨r, 1, none⟩ = some (.slice (some ⟨S, 0, none⟩) d.size cS) := cellOf h.box rfl
  have hlB : (strB l).size = 512 * m := hl
  have hq : ¬ ((m : Int) > (d.size : Int) - at_) := by omega
  have hat : ¬ ((at_ : Int) > (d.size : Int)) := by omega
  have HR := Lib.hid hR
  have Hl : Hid (∀ k : Nat, ((d.since ((at_ + k : Nat) : Int)).getD []).length ≤ 100000) := Lib.hid fun k => by
    cases hk : d.since ((at_ + k : Nat) : Int) with
    | none => simp
    | some ls => have := (hok.since _ _ hk).2.2.2.1; simp; omega
  clear h hst0 hok hB hst hF hl
  cases hfl : d.failing
  all_goals
    rw [hfl] at HS
  · go_enter Try.func24, Try.ntmps24
    go_wp2_with (go_at_call 47; refine HS.out.mono ?_; rintro e w1 ⟨rfl, hA1, hT1⟩; have H1 := Lib.hid (And.intro hA1 hT1); clear hA1 hT1)
    go_loopw [8, 9] (fun i x wr => ∃ (k : Nat) (qs' : List Value), k ≤ m ∧ i = .int .i64 (k : Int) ∧ RefAt wr (fun b => R b ∨ w.heap.size ≤ b) r (d.stepped.wrote false at_ l k) F X L cL S cS Q cQ qs' ∧ Touch R w wr) (fun i _ _ => m - (intOf i).toNat)
    case atStart => exact ⟨0, qs, Nat.zero_le _, rfl, by rw [DM.wrote_zero]; exact H1.out.1.mono (fun b hb => .inl hb), H1.out.2⟩
    case round =>
      obtain ⟨k, qs', hk, rfl, hA, hT⟩ := hrel
      by_cases hlt : k < m
      · obtain ⟨q, hq1, hq2⟩ := hA.at (at_ + k) (by show at_ + k < d.size; omega)
        have hc2 : wr.drew.cell? ⟨r, 2, none⟩ = some (.slice (some ⟨Q, 0, none⟩) d.size cQ) := cellOf hA.box rfl
        have hS0 : wr.drew.cell? ⟨r, 2, none⟩ = some (.slice (some ⟨Q, 0, none⟩) d.size cQ) ∧ wr.drew.cell? ⟨Q, at_ + k, none⟩ = some q := ⟨hc2, hq2⟩
        have Hp := Lib.hid (Hbl.out k hlt)
        have HA := Lib.hid hA
        have HT := Lib.hid hT
        have hS1 := Lib.hid hS0
        have Hq := Lib.hid hq1
        clear hA hT hS0 hc2 hq1 hq2
        go_wp2_with (refine wpList_run rfl (exec_slice rfl rfl rfl rfl rfl (Hp.out _)) ?_)
        have hS0 := hS1.out
        have hq1 := Hq.out
        have hown := (HA.out.each (at_ + k) q hq1).1
        have hsn : (d.stepped.wrote false at_ l k).since ((at_ + k : Nat) : Int) = d.since ((at_ + k : Nat) : Int) := wrote_later d.stepped false at_ l k _ (by omega)
        rw [hsn] at hown
        have hown' : wr.drew.ownsRow 0 9 1 q _ _ := ownsRow_heap hown (fun _ _ => rfl)
        have hf2 : ∀ W : World, (Instr.fieldAt 33 (.pointer (some ⟨r, 0, none⟩)) 2).run Try.prog W = .ok (.pointer (some ⟨r, 2, none⟩)) W := by intro W; simp [go_sem]
        have hadd : ∀ W : World, (binOp .add 3 (.int .i64 (at_ : Int)) (.int .i64 (k : Int))).run Try.prog W = .ok (.int .i64 ((at_ + k : Nat) : Int)) W := by
          intro W
          have e : IntKind.i64.wrap ((at_ : Int) + (k : Int)) = ((at_ + k : Nat) : Int) := by simp [IntKind.wrap, IntKind.signed, IntKind.bits]; omega
          simp [go_sem, e]
        have hix : ∀ W, (Instr.indexAt 30 (.slice (some ⟨Q, 0, none⟩) d.size cQ) (.int .i64 ((at_ + k : Nat) : Int))).run Try.prog W = .ok (.pointer (some ⟨Q, at_ + k, none⟩)) W := fun W => by
          have h1 : 0 ≤ (at_ : Int) + (k : Int) ∧ (at_ : Int) + (k : Int) < (d.size : Int) := by omega
          have h2 : ((at_ : Int) + (k : Int)).toNat = at_ + k := by omega
          simp [go_sem, h1, h2, addr_add]
        refine plain_region_draws (fun W => W.cell? ⟨r, 2, none⟩ = some (.slice (some ⟨Q, 0, none⟩) d.size cQ) ∧ W.cell? ⟨Q, at_ + k, none⟩ = some q) (by kernel_rfl) hS0 (fun hS => ?_)
        refine take 0 54 (v := .pointer (some ⟨r, 0, none⟩)) rfl rfl (by kernel_rfl) (by kernel_rfl) (by kernel_rfl) rfl (fun W hW => exec_move rfl rfl) (by assumption) ?_
        simp only [Act.put, List.setIfInBounds_toArray, List.set_cons_zero, List.set_cons_succ]
        refine take 1 55 (v := .pointer (some ⟨r, 0, none⟩)) rfl rfl (by kernel_rfl) (by kernel_rfl) (by kernel_rfl) rfl (fun W hW => rfl) (by assumption) ?_
        simp only [Act.put, List.setIfInBounds_toArray, List.set_cons_zero, List.set_cons_succ]
        refine take 2 56 (v := .pointer (some ⟨r, 2, none⟩)) rfl rfl (by kernel_rfl) (by kernel_rfl) (by kernel_rfl) rfl (fun W hW => exec_fieldAddr rfl rfl (hf2 W)) (by assumption) ?_
        simp only [Act.put, List.setIfInBounds_toArray, List.set_cons_zero, List.set_cons_succ]
        refine take 3 57 (v := .slice (some ⟨Q, 0, none⟩) d.size cQ) rfl rfl (by kernel_rfl) (by kernel_rfl) (by kernel_rfl) rfl (fun W hW => exec_load rfl rfl (run_load1 (w := W) Try.underlying30 rfl hW.1)) (by assumption) ?_
        simp only [Act.put, List.setIfInBounds_toArray, List.set_cons_zero, List.set_cons_succ]
        refine take 4 58 (v := .int .i64 (at_ : Int)) rfl rfl (by kernel_rfl) (by kernel_rfl) (by kernel_rfl) rfl (fun W hW => exec_move rfl rfl) (by assumption) ?_
        simp only [Act.put, List.setIfInBounds_toArray, List.set_cons_zero, List.set_cons_succ]
        refine take 5 59 (v := .int .i64 (k : Int)) rfl rfl (by kernel_rfl) (by kernel_rfl) (by kernel_rfl) rfl (fun W hW => exec_move rfl rfl) (by assumption) ?_
        simp only [Act.put, List.setIfInBounds_toArray, List.set_cons_zero, List.set_cons_succ]
        refine take 6 60 (v := .int .i64 ((at_ + k : Nat) : Int)) rfl rfl (by kernel_rfl) (by kernel_rfl) (by kernel_rfl) rfl (fun W hW => exec_bini rfl rfl rfl (hadd W)) (by assumption) ?_
        simp only [Act.put, List.setIfInBounds_toArray, List.set_cons_zero, List.set_cons_succ]
        refine take 7 61 (v := .pointer (some ⟨r, 0, none⟩)) rfl rfl (by kernel_rfl) (by kernel_rfl) (by kernel_rfl) rfl (fun W hW => exec_move rfl rfl) (by assumption) ?_
        simp only [Act.put, List.setIfInBounds_toArray, List.set_cons_zero, List.set_cons_succ]
        refine take 8 62 (v := .pointer (some ⟨r, 0, none⟩)) rfl rfl (by kernel_rfl) (by kernel_rfl) (by kernel_rfl) rfl (fun W hW => rfl) (by assumption) ?_
        simp only [Act.put, List.setIfInBounds_toArray, List.set_cons_zero, List.set_cons_succ]
        refine take 9 63 (v := .pointer (some ⟨r, 2, none⟩)) rfl rfl (by kernel_rfl) (by kernel_rfl) (by kernel_rfl) rfl (fun W hW => exec_fieldAddr rfl rfl (hf2 W)) (by assumption) ?_
        simp only [Act.put, List.setIfInBounds_toArray, List.set_cons_zero, List.set_cons_succ]
        refine take 10 64 (v := .slice (some ⟨Q, 0, none⟩) d.size cQ) rfl rfl (by kernel_rfl) (by kernel_rfl) (by kernel_rfl) rfl (fun W hW => exec_load rfl rfl (run_load1 (w := W) Try.underlying30 rfl hW.1)) (by assumption) ?_
        simp only [Act.put, List.setIfInBounds_toArray, List.set_cons_zero, List.set_cons_succ]
        refine take 11 65 (v := .int .i64 (at_ : Int)) rfl rfl (by kernel_rfl) (by kernel_rfl) (by kernel_rfl) rfl (fun W hW => exec_move rfl rfl) (by assumption) ?_
        simp only [Act.put, List.setIfInBounds_toArray, List.set_cons_zero, List.set_cons_succ]
        refine take 12 66 (v := .int .i64 (k : Int)) rfl rfl (by kernel_rfl) (by kernel_rfl) (by kernel_rfl) rfl (fun W hW => exec_move rfl rfl) (by assumption) ?_
        simp only [Act.put, List.setIfInBounds_toArray, List.set_cons_zero, List.set_cons_succ]
        refine take 13 67 (v := .int .i64 ((at_ + k : Nat) : Int)) rfl rfl (by kernel_rfl) (by kernel_rfl) (by kernel_rfl) rfl (fun W hW => exec_bini rfl rfl rfl (hadd W)) (by assumption) ?_
        simp only [Act.put, List.setIfInBounds_toArray, List.set_cons_zero, List.set_cons_succ]
        refine take 14 68 (v := .pointer (some ⟨Q, at_ + k, none⟩)) rfl rfl (by kernel_rfl) (by kernel_rfl) (by kernel_rfl) rfl (fun W hW => exec_indexAddr rfl rfl rfl (hix W)) (by assumption) ?_
        simp only [Act.put, List.setIfInBounds_toArray, List.set_cons_zero, List.set_cons_succ]
        refine take 15 69 (v := q) rfl rfl (by kernel_rfl) (by kernel_rfl) (by kernel_rfl) rfl (fun W hW => exec_load rfl rfl (run_load1 (w := W) Try.underlying29 rfl hW.2)) (by assumption) ?_
        simp only [Act.put, List.setIfInBounds_toArray, List.set_cons_zero, List.set_cons_succ]
        refine take 17 71 (v := .string (strB (blkOf l k))) rfl rfl (by kernel_rfl) (by kernel_rfl) (by kernel_rfl) rfl (fun W hW => exec_move rfl rfl) (by assumption) ?_
        simp only [Act.put, List.setIfInBounds_toArray, List.set_cons_zero, List.set_cons_succ]
        refine either 16 18 (by kernel_rfl) ?_ ?_
        · obtain ⟨q1, V1, g, c, V2, hcp, hb1, happ, hrow, hT2, hg⟩ := copy_last hown' (strV_one _) (by have := Hl.out k; omega) 29 29 (strV (blkOf l k)) rfl
          have hc := hT2.cell hS0.1 (fun h => h)
          have hcQ := hT2.cell hS0.2 (fun h => h)
          have hbA := (Below.refl wr.drew.heap.size wr.drew).alloc (Nat.le_refl _) (.cells #[strV (blkOf l k)] 9)
          have hbV := hb1.trans (((Below.refl V1.heap.size V1).alloc (Nat.le_refl _) (.cells #[strV (blkOf l k)] 9)).mono hb1.size)
          have hS1' : V1.cell? ⟨r, 2, none⟩ = some (.slice (some ⟨Q, 0, none⟩) d.size cQ) ∧ V1.cell? ⟨Q, at_ + k, none⟩ = some q := ⟨belowCell hb1 (ltOf hS0.1) hS0.1, belowCell hb1 (ltOf hS0.2) hS0.2⟩
          have hbs := run_buildSlice_one (P := Try.prog) (w := V1) (v := .string (strB (blkOf l k))) Try.underlying29 Try.sizeOf9 Try.zeroValue9 rfl (by omega) (by omega)
          refine opRun 16 70 (v := q1) rfl rfl (by kernel_rfl) (exec_append rfl rfl rfl hcp) ⟨.inr hS1', ?_⟩
          simp only [Act.put, List.setIfInBounds_toArray, List.set_cons_zero, List.set_cons_succ]
          refine onlyRun 18 72 (v := .slice (some ⟨V1.heap.size, 0, none⟩) 1 1) rfl rfl (by kernel_rfl) rfl (exec_buildSlice1 rfl rfl hbs) (.inr ⟨belowCell hbV (ltOf hS0.1) hS0.1, belowCell hbV (ltOf hS0.2) hS0.2⟩) ?_
          simp only [Act.put, List.setIfInBounds_toArray, List.set_cons_zero, List.set_cons_succ]
          refine onlyRun 19 73 (v := .slice (some ⟨g, 0, none⟩) (((d.since ((at_ + k : Nat) : Int)).getD []).length + 1) c) rfl rfl (by kernel_rfl) rfl (exec_append rfl rfl rfl happ) (.inr ⟨hc, hcQ⟩) ?_
          simp only [Act.put, List.setIfInBounds_toArray, List.set_cons_zero, List.set_cons_succ]
          refine take 20 74 (v := .pointer (some ⟨Q, at_ + k, none⟩)) rfl rfl (by kernel_rfl) (by kernel_rfl) (by kernel_rfl) rfl (fun W hW => exec_indexAddr rfl rfl rfl (hix W)) (.intro hc hcQ) ?_
          simp only [Act.put, List.setIfInBounds_toArray, List.set_cons_zero, List.set_cons_succ]
          have hA2 : RefAt (V2.setCell ⟨Q, at_ + k, none⟩ (.slice (some ⟨g, 0, none⟩) (((d.since ((at_ + k : Nat) : Int)).getD []).length + 1) c)) (fun b => R b ∨ w.heap.size ≤ b) r { d.stepped.wrote false at_ l k with since := (d.stepped.wrote false at_ l (k + 1)).since } F X L cL S cS Q cQ (qs'.set (at_ + k) (.slice (some ⟨g, 0, none⟩) (((d.since ((at_ + k : Nat) : Int)).getD []).length + 1) c)) := RefAt.appended (w := w) (V := wr.drew) (HA.out.touch ((Touch.refl (fun _ => False) wr).drew) (fun _ _ h => h)) (by show at_ + k < d.size; omega) hT2 hrow hg (by show w.heap.size ≤ wr.heap.size; exact HT.out.size)
          have hfQ : V2.frozen? ⟨Q, at_ + k, none⟩ = false := (HA.out.since.touch (((Touch.refl (fun _ => False) wr).drew).trans hT2) (fun h => h)).free _
          refine onlySkip 21 rfl rfl (by kernel_rfl) rfl (exec_store rfl rfl rfl (put_strs hcQ hfQ)) (.inl (by kernel_rfl)) ?_
          refine done (by kernel_rfl) ?_ _
          have hTQ : Touch R w (V2.setCell ⟨Q, at_ + k, none⟩ (.slice (some ⟨g, 0, none⟩) (((d.since ((at_ + k : Nat) : Int)).getD []).length + 1) c)) := (((HT.out.drew).step hT2 (fun _ _ h => h.elim))).setCell (HA.out.foot Q (by simp)) _
          generalize hW3 : V2.setCell _ _ = W3 at *
          clear hW3
          have hc1 : W3.cell? ⟨r, 1, none⟩ = some (.slice (some ⟨S, 0, none⟩) d.size cS) := cellOf hA2.box rfl
          have hcS := hA2.seenAt (at_ + k) (by show at_ + k < d.size; omega)
          have hfS := hA2.seen.free (at_ + k)
          have hA3 := hA2.putS (at_ + k) (by show at_ + k < d.size; omega) (blkOf l k) (d' := d.stepped.wrote false at_ l (k + 1)) rfl rfl (wrote_seen_at _ _ _ _) rfl rfl rfl (fun j hj => wrote_seen_next _ _ _ _ _ _ hj)
          have HA3 := Lib.hid (And.intro hA3 (hTQ.setCell (o := at_ + k) (HA.out.foot S (by simp)) (strV (blkOf l k))))
          generalize strV (((d.stepped.wrote false at_ l k).seen ((at_ + k : Nat) : Int)).getD zblk) = old at hcS
          have hlt3 : at_ + k < d.size := by omega
          clear hA2 hTQ hfQ hS0 hq1 hown hsn hown' hf2 hadd hix hS hcp hb1 happ hrow hT2 hg hc hcQ hbA hbV hS1' hbs Hp HA HT hS1 Hq hA3
          go_wp2
          go_roundw
          case rel => exact ⟨k + 1, _, by omega, by go_num, HA3.out⟩
          case measure => simp [intOf]; omega
        · obtain ⟨q1, V1, g, c, V2, hcp, hb1, happ, hrow, hT2, hg⟩ := copy_first hown' (strV_one _) (by have := Hl.out k; omega) 29 29 (strV (blkOf l k)) rfl
          have hc := hT2.cell hS0.1 (fun h => h)
          have hcQ := hT2.cell hS0.2 (fun h => h)
          have hbA := (Below.refl wr.drew.heap.size wr.drew).alloc (Nat.le_refl _) (.cells #[strV (blkOf l k)] 9)
          have hbV := hb1.trans (((Below.refl V1.heap.size V1).alloc (Nat.le_refl _) (.cells #[strV (blkOf l k)] 9)).mono hb1.size)
          have hS1' : V1.cell? ⟨r, 2, none⟩ = some (.slice (some ⟨Q, 0, none⟩) d.size cQ) ∧ V1.cell? ⟨Q, at_ + k, none⟩ = some q := ⟨belowCell hb1 (ltOf hS0.1) hS0.1, belowCell hb1 (ltOf hS0.2) hS0.2⟩
          have hbs := run_buildSlice_one (P := Try.prog) (w := wr.drew) (v := .string (strB (blkOf l k))) Try.underlying29 Try.sizeOf9 Try.zeroValue9 rfl (by omega) (by omega)
          refine opRun 18 72 (v := .slice (some ⟨wr.drew.heap.size, 0, none⟩) 1 1) rfl rfl (by kernel_rfl) (exec_buildSlice1 rfl rfl hbs) ⟨.inr ⟨belowCell hbA (ltOf hS0.1) hS0.1, belowCell hbA (ltOf hS0.2) hS0.2⟩, ?_⟩
          simp only [Act.put, List.setIfInBounds_toArray, List.set_cons_zero, List.set_cons_succ]
          refine onlyRun 16 70 (v := q1) rfl rfl (by kernel_rfl) rfl (exec_append rfl rfl rfl hcp) (.inr hS1') ?_
          simp only [Act.put, List.setIfInBounds_toArray, List.set_cons_zero, List.set_cons_succ]
          refine onlyRun 19 73 (v := .slice (some ⟨g, 0, none⟩) (((d.since ((at_ + k : Nat) : Int)).getD []).length + 1) c) rfl rfl (by kernel_rfl) rfl (exec_append rfl rfl rfl happ) (.inr ⟨hc, hcQ⟩) ?_
          simp only [Act.put, List.setIfInBounds_toArray, List.set_cons_zero, List.set_cons_succ]
          refine take 20 74 (v := .pointer (some ⟨Q, at_ + k, none⟩)) rfl rfl (by kernel_rfl) (by kernel_rfl) (by kernel_rfl) rfl (fun W hW => exec_indexAddr rfl rfl rfl (hix W)) (.intro hc hcQ) ?_
          simp only [Act.put, List.setIfInBounds_toArray, List.set_cons_zero, List.set_cons_succ]
          have hA2 : RefAt (V2.setCell ⟨Q, at_ + k, none⟩ (.slice (some ⟨g, 0, none⟩) (((d.since ((at_ + k : Nat) : Int)).getD []).length + 1) c)) (fun b => R b ∨ w.heap.size ≤ b) r { d.stepped.wrote false at_ l k with since := (d.stepped.wrote false at_ l (k + 1)).since } F X L cL S cS Q cQ (qs'.set (at_ + k) (.slice (some ⟨g, 0, none⟩) (((d.since ((at_ + k : Nat) : Int)).getD []).length + 1) c)) := RefAt.appended (w := w) (V := wr.drew) (HA.out.touch ((Touch.refl (fun _ => False) wr).drew) (fun _ _ h => h)) (by show at_ + k < d.size; omega) hT2 hrow hg (by show w.heap.size ≤ wr.heap.size; exact HT.out.size)
          have hfQ : V2.frozen? ⟨Q, at_ + k, none⟩ = false := (HA.out.since.touch (((Touch.refl (fun _ => False) wr).drew).trans hT2) (fun h => h)).free _
          refine onlySkip 21 rfl rfl (by kernel_rfl) rfl (exec_store rfl rfl rfl (put_strs hcQ hfQ)) (.inl (by kernel_rfl)) ?_
          refine done (by kernel_rfl) ?_ _
          have hTQ : Touch R w (V2.setCell ⟨Q, at_ + k, none⟩ (.slice (some ⟨g, 0, none⟩) (((d.since ((at_ + k : Nat) : Int)).getD []).length + 1) c)) := (((HT.out.drew).step hT2 (fun _ _ h => h.elim))).setCell (HA.out.foot Q (by simp)) _
          generalize hW3 : V2.setCell _ _ = W3 at *
          clear hW3
          have hc1 : W3.cell? ⟨r, 1, none⟩ = some (.slice (some ⟨S, 0, none⟩) d.size cS) := cellOf hA2.box rfl
          have hcS := hA2.seenAt (at_ + k) (by show at_ + k < d.size; omega)
          have hfS := hA2.seen.free (at_ + k)
          have hA3 := hA2.putS (at_ + k) (by show at_ + k < d.size; omega) (blkOf l k) (d' := d.stepped.wrote false at_ l (k + 1)) rfl rfl (wrote_seen_at _ _ _ _) rfl rfl rfl (fun j hj => wrote_seen_next _ _ _ _ _ _ hj)
          have HA3 := Lib.hid (And.intro hA3 (hTQ.setCell (o := at_ + k) (HA.out.foot S (by simp)) (strV (blkOf l k))))
          generalize strV (((d.stepped.wrote false at_ l k).seen ((at_ + k : Nat) : Int)).getD zblk) = old at hcS
          have hlt3 : at_ + k < d.size := by omega
          clear hA2 hTQ hfQ hS0 hq1 hown hsn hown' hf2 hadd hix hS hcp hb1 happ hrow hT2 hg hc hcQ hbA hbV hS1' hbs Hp HA HT hS1 Hq hA3
          go_wp2
          go_roundw
          case rel => exact ⟨k + 1, _, by omega, by go_num, HA3.out⟩
          case measure => simp [intOf]; omega
      · obtain rfl : k = m := by omega
        have Hfin := Lib.hid (And.intro (⟨X, L, cL, S, cS, Q, cQ, qs', hA⟩ : Ref wr (fun b => R b ∨ w.heap.size ≤ b) r _ F) hT)
        clear hA hT
        go_wp2
        go_ret
        exact ⟨rfl, Hfin.out⟩
  · go_enter Try.func24, Try.ntmps24
    go_wp2_with (go_at_call 47; refine HS.out.mono ?_; rintro e w1 ⟨rfl, hA1, hT1⟩; have H1 := Lib.hid (And.intro hA1 hT1); clear hA1 hT1)
    go_loopw [8, 9] (fun i x wr => ∃ (k : Nat) (qs' : List Value), k ≤ m ∧ i = .int .i64 (k : Int) ∧ RefAt wr (fun b => R b ∨ w.heap.size ≤ b) r (d.stepped.wrote true at_ l k) F X L cL S cS Q cQ qs' ∧ Touch R w wr) (fun i _ _ => m - (intOf i).toNat)
    case atStart => exact ⟨0, qs, Nat.zero_le _, rfl, by rw [DM.wrote_zero]; exact H1.out.1.mono (fun b hb => .inl hb), H1.out.2⟩
    case round =>
      obtain ⟨k, qs', hk, rfl, hA, hT⟩ := hrel
      by_cases hlt : k < m
      · obtain ⟨q, hq1, hq2⟩ := hA.at (at_ + k) (by show at_ + k < d.size; omega)
        have hc2 : wr.drew.cell? ⟨r, 2, none⟩ = some (.slice (some ⟨Q, 0, none⟩) d.size cQ) := cellOf hA.box rfl
        have hS0 : wr.drew.cell? ⟨r, 2, none⟩ = some (.slice (some ⟨Q, 0, none⟩) d.size cQ) ∧ wr.drew.cell? ⟨Q, at_ + k, none⟩ = some q := ⟨hc2, hq2⟩
        have Hp := Lib.hid (Hbl.out k hlt)
        have HA := Lib.hid hA
        have HT := Lib.hid hT
        have hS1 := Lib.hid hS0
        have Hq := Lib.hid hq1
        clear hA hT hS0 hc2 hq1 hq2
        go_wp2_with (refine wpList_run rfl (exec_slice rfl rfl rfl rfl rfl (Hp.out _)) ?_)
        have hS0 := hS1.out
        have hq1 := Hq.out
        have hown := (HA.out.each (at_ + k) q hq1).1
        have hsn : (d.stepped.wrote true at_ l k).since ((at_ + k : Nat) : Int) = d.since ((at_ + k : Nat) : Int) := wrote_later d.stepped true at_ l k _ (by omega)
        rw [hsn] at hown
        have hown' : wr.drew.ownsRow 0 9 1 q _ _ := ownsRow_heap hown (fun _ _ => rfl)
        have hf2 : ∀ W : World, (Instr.fieldAt 33 (.pointer (some ⟨r, 0, none⟩)) 2).run Try.prog W = .ok (.pointer (some ⟨r, 2, none⟩)) W := by intro W; simp [go_sem]
        have hadd : ∀ W : World, (binOp .add 3 (.int .i64 (at_ : Int)) (.int .i64 (k : Int))).run Try.prog W = .ok (.int .i64 ((at_ + k : Nat) : Int)) W := by
          intro W
          have e : IntKind.i64.wrap ((at_ : Int) + (k : Int)) = ((at_ + k : Nat) : Int) := by simp [IntKind.wrap, IntKind.signed, IntKind.bits]; omega
          simp [go_sem, e]
        have hix : ∀ W, (Instr.indexAt 30 (.slice (some ⟨Q, 0, none⟩) d.size cQ) (.int .i64 ((at_ + k : Nat) : Int))).run Try.prog W = .ok (.pointer (some ⟨Q, at_ + k, none⟩)) W := fun W => by
          have h1 : 0 ≤ (at_ : Int) + (k : Int) ∧ (at_ : Int) + (k : Int) < (d.size : Int) := by omega
          have h2 : ((at_ : Int) + (k : Int)).toNat = at_ + k := by omega
          simp [go_sem, h1, h2, addr_add]
        refine plain_region_draws (fun W => W.cell? ⟨r, 2, none⟩ = some (.slice (some ⟨Q, 0, none⟩) d.size cQ) ∧ W.cell? ⟨Q, at_ + k, none⟩ = some q) (by kernel_rfl) hS0 (fun hS => ?_)
        refine take 0 54 (v := .pointer (some ⟨r, 0, none⟩)) rfl rfl (by kernel_rfl) (by kernel_rfl) (by kernel_rfl) rfl (fun W hW => exec_move rfl rfl) (by assumption) ?_
        simp only [Act.put, List.setIfInBounds_toArray, List.set_cons_zero, List.set_cons_succ]
        refine take 1 55 (v := .pointer (some ⟨r, 0, none⟩)) rfl rfl (by kernel_rfl) (by kernel_rfl) (by kernel_rfl) rfl (fun W hW => rfl) (by assumption) ?_
        simp only [Act.put, List.setIfInBounds_toArray, List.set_cons_zero, List.set_cons_succ]
        refine take 2 56 (v := .pointer (some ⟨r, 2, none⟩)) rfl rfl (by kernel_rfl) (by kernel_rfl) (by kernel_rfl) rfl (fun W hW => exec_fieldAddr rfl rfl (hf2 W)) (by assumption) ?_
        simp only [Act.put, List.setIfInBounds_toArray, List.set_cons_zero, List.set_cons_succ]
        refine take 3 57 (v := .slice (some ⟨Q, 0, none⟩) d.size cQ) rfl rfl (by kernel_rfl) (by kernel_rfl) (by kernel_rfl) rfl (fun W hW => exec_load rfl rfl (run_load1 (w := W) Try.underlying30 rfl hW.1)) (by assumption) ?_
        simp only [Act.put, List.setIfInBounds_toArray, List.set_cons_zero, List.set_cons_succ]
        refine take 4 58 (v := .int .i64 (at_ : Int)) rfl rfl (by kernel_rfl) (by kernel_rfl) (by kernel_rfl) rfl (fun W hW => exec_move rfl rfl) (by assumption) ?_
        simp only [Act.put, List.setIfInBounds_toArray, List.set_cons_zero, List.set_cons_succ]
        refine take 5 59 (v := .int .i64 (k : Int)) rfl rfl (by kernel_rfl) (by kernel_rfl) (by kernel_rfl) rfl (fun W hW => exec_move rfl rfl) (by assumption) ?_
        simp only [Act.put, List.setIfInBounds_toArray, List.set_cons_zero, List.set_cons_succ]
        refine take 6 60 (v := .int .i64 ((at_ + k : Nat) : Int)) rfl rfl (by kernel_rfl) (by kernel_rfl) (by kernel_rfl) rfl (fun W hW => exec_bini rfl rfl rfl (hadd W)) (by assumption) ?_
        simp only [Act.put, List.setIfInBounds_toArray, List.set_cons_zero, List.set_cons_succ]
        refine take 7 61 (v := .pointer (some ⟨r, 0, none⟩)) rfl rfl (by kernel_rfl) (by kernel_rfl) (by kernel_rfl) rfl (fun W hW => exec_move rfl rfl) (by assumption) ?_
        simp only [Act.put, List.setIfInBounds_toArray, List.set_cons_zero, List.set_cons_succ]
        refine take 8 62 (v := .pointer (some ⟨r, 0, none⟩)) rfl rfl (by kernel_rfl) (by kernel_rfl) (by kernel_rfl) rfl (fun W hW => rfl) (by assumption) ?_
        simp only [Act.put, List.setIfInBounds_toArray, List.set_cons_zero, List.set_cons_succ]
        refine take 9 63 (v := .pointer (some ⟨r, 2, none⟩)) rfl rfl (by kernel_rfl) (by kernel_rfl) (by kernel_rfl) rfl (fun W hW => exec_fieldAddr rfl rfl (hf2 W)) (by assumption) ?_
        simp only [Act.put, List.setIfInBounds_toArray, List.set_cons_zero, List.set_cons_succ]
        refine take 10 64 (v := .slice (some ⟨Q, 0, none⟩) d.size cQ) rfl rfl (by kernel_rfl) (by kernel_rfl) (by kernel_rfl) rfl (fun W hW => exec_load rfl rfl (run_load1 (w := W) Try.underlying30 rfl hW.1)) (by assumption) ?_
        simp only [Act.put, List.setIfInBounds_toArray, List.set_cons_zero, List.set_cons_succ]
        refine take 11 65 (v := .int .i64 (at_ : Int)) rfl rfl (by kernel_rfl) (by kernel_rfl) (by kernel_rfl) rfl (fun W hW => exec_move rfl rfl) (by assumption) ?_
        simp only [Act.put, List.setIfInBounds_toArray, List.set_cons_zero, List.set_cons_succ]
        refine take 12 66 (v := .int .i64 (k : Int)) rfl rfl (by kernel_rfl) (by kernel_rfl) (by kernel_rfl) rfl (fun W hW => exec_move rfl rfl) (by assumption) ?_
        simp only [Act.put, List.setIfInBounds_toArray, List.set_cons_zero, List.set_cons_succ]
        refine take 13 67 (v := .int .i64 ((at_ + k : Nat) : Int)) rfl rfl (by kernel_rfl) (by kernel_rfl) (by kernel_rfl) rfl (fun W hW => exec_bini rfl rfl rfl (hadd W)) (by assumption) ?_
        simp only [Act.put, List.setIfInBounds_toArray, List.set_cons_zero, List.set_cons_succ]
        refine take 14 68 (v := .pointer (some ⟨Q, at_ + k, none⟩)) rfl rfl (by kernel_rfl) (by kernel_rfl) (by kernel_rfl) rfl (fun W hW => exec_indexAddr rfl rfl rfl (hix W)) (by assumption) ?_
        simp only [Act.put, List.setIfInBounds_toArray, List.set_cons_zero, List.set_cons_succ]
        refine take 15 69 (v := q) rfl rfl (by kernel_rfl) (by kernel_rfl) (by kernel_rfl) rfl (fun W hW => exec_load rfl rfl (run_load1 (w := W) Try.underlying29 rfl hW.2)) (by assumption) ?_
        simp only [Act.put, List.setIfInBounds_toArray, List.set_cons_zero, List.set_cons_succ]
        refine take 17 71 (v := .string (strB (blkOf l k))) rfl rfl (by kernel_rfl) (by kernel_rfl) (by kernel_rfl) rfl (fun W hW => exec_move rfl rfl) (by assumption) ?_
        simp only [Act.put, List.setIfInBounds_toArray, List.set_cons_zero, List.set_cons_succ]
        refine either 16 18 (by kernel_rfl) ?_ ?_
        · obtain ⟨q1, V1, g, c, V2, hcp, hb1, happ, hrow, hT2, hg⟩ := copy_last hown' (strV_one _) (by have := Hl.out k; omega) 29 29 (strV (blkOf l k)) rfl
          have hc := hT2.cell hS0.1 (fun h => h)
          have hcQ := hT2.cell hS0.2 (fun h => h)
          have hbA := (Below.refl wr.drew.heap.size wr.drew).alloc (Nat.le_refl _) (.cells #[strV (blkOf l k)] 9)
          have hbV := hb1.trans (((Below.refl V1.heap.size V1).alloc (Nat.le_refl _) (.cells #[strV (blkOf l k)] 9)).mono hb1.size)
          have hS1' : V1.cell? ⟨r, 2, none⟩ = some (.slice (some ⟨Q, 0, none⟩) d.size cQ) ∧ V1.cell? ⟨Q, at_ + k, none⟩ = some q := ⟨belowCell hb1 (ltOf hS0.1) hS0.1, belowCell hb1 (ltOf hS0.2) hS0.2⟩
          have hbs := run_buildSlice_one (P := Try.prog) (w := V1) (v := .string (strB (blkOf l k))) Try.underlying29 Try.sizeOf9 Try.zeroValue9 rfl (by omega) (by omega)
          refine opRun 16 70 (v := q1) rfl rfl (by kernel_rfl) (exec_append rfl rfl rfl hcp) ⟨.inr hS1', ?_⟩
          simp only [Act.put, List.setIfInBounds_toArray, List.set_cons_zero, List.set_cons_succ]
          refine onlyRun 18 72 (v := .slice (some ⟨V1.heap.size, 0, none⟩) 1 1) rfl rfl (by kernel_rfl) rfl (exec_buildSlice1 rfl rfl hbs) (.inr ⟨belowCell hbV (ltOf hS0.1) hS0.1, belowCell hbV (ltOf hS0.2) hS0.2⟩) ?_
          simp only [Act.put, List.setIfInBounds_toArray, List.set_cons_zero, List.set_cons_succ]
          refine onlyRun 19 73 (v := .slice (some ⟨g, 0, none⟩) (((d.since ((at_ + k : Nat) : Int)).getD []).length + 1) c) rfl rfl (by kernel_rfl) rfl (exec_append rfl rfl rfl happ) (.inr ⟨hc, hcQ⟩) ?_
          simp only [Act.put, List.setIfInBounds_toArray, List.set_cons_zero, List.set_cons_succ]
          refine take 20 74 (v := .pointer (some ⟨Q, at_ + k, none⟩)) rfl rfl (by kernel_rfl) (by kernel_rfl) (by kernel_rfl) rfl (fun W hW => exec_indexAddr rfl rfl rfl (hix W)) (.intro hc hcQ) ?_
          simp only [Act.put, List.setIfInBounds_toArray, List.set_cons_zero, List.set_cons_succ]
          have hA2 : RefAt (V2.setCell ⟨Q, at_ + k, none⟩ (.slice (some ⟨g, 0, none⟩) (((d.since ((at_ + k : Nat) : Int)).getD []).length + 1) c)) (fun b => R b ∨ w.heap.size ≤ b) r { d.stepped.wrote true at_ l k with since := (d.stepped.wrote true at_ l (k + 1)).since } F X L cL S cS Q cQ (qs'.set (at_ + k) (.slice (some ⟨g, 0, none⟩) (((d.since ((at_ + k : Nat) : Int)).getD []).length + 1) c)) := RefAt.appended (w := w) (V := wr.drew) (HA.out.touch ((Touch.refl (fun _ => False) wr).drew) (fun _ _ h => h)) (by show at_ + k < d.size; omega) hT2 hrow hg (by show w.heap.size ≤ wr.heap.size; exact HT.out.size)
          have hfQ : V2.frozen? ⟨Q, at_ + k, none⟩ = false := (HA.out.since.touch (((Touch.refl (fun _ => False) wr).drew).trans hT2) (fun h => h)).free _
          refine onlySkip 21 rfl rfl (by kernel_rfl) rfl (exec_store rfl rfl rfl (put_strs hcQ hfQ)) (.inl (by kernel_rfl)) ?_
          refine done (by kernel_rfl) ?_ _
          have hTQ : Touch R w (V2.setCell ⟨Q, at_ + k, none⟩ (.slice (some ⟨g, 0, none⟩) (((d.since ((at_ + k : Nat) : Int)).getD []).length + 1) c)) := (((HT.out.drew).step hT2 (fun _ _ h => h.elim))).setCell (HA.out.foot Q (by simp)) _
          generalize hW3 : V2.setCell _ _ = W3 at *
          clear hW3
          rw [wrote_fail_eq] at hA2
          have HA3 := Lib.hid (And.intro hA2 hTQ)
          clear hA2 hTQ hfQ hS0 hq1 hown hsn hown' hf2 hadd hix hS hcp hb1 happ hrow hT2 hg hc hcQ hbA hbV hS1' hbs Hp HA HT hS1 Hq
          go_wp2
          go_roundw
          case rel => exact ⟨k + 1, _, by omega, by go_num, HA3.out⟩
          case measure => simp [intOf]; omega
        · obtain ⟨q1, V1, g, c, V2, hcp, hb1, happ, hrow, hT2, hg⟩ := copy_first hown' (strV_one _) (by have := Hl.out k; omega) 29 29 (strV (blkOf l k)) rfl
          have hc := hT2.cell hS0.1 (fun h => h)
          have hcQ := hT2.cell hS0.2 (fun h => h)
          have hbA := (Below.refl wr.drew.heap.size wr.drew).alloc (Nat.le_refl _) (.cells #[strV (blkOf l k)] 9)
          have hbV := hb1.trans (((Below.refl V1.heap.size V1).alloc (Nat.le_refl _) (.cells #[strV (blkOf l k)] 9)).mono hb1.size)
          have hS1' : V1.cell? ⟨r, 2, none⟩ = some (.slice (some ⟨Q, 0, none⟩) d.size cQ) ∧ V1.cell? ⟨Q, at_ + k, none⟩ = some q := ⟨belowCell hb1 (ltOf hS0.1) hS0.1, belowCell hb1 (ltOf hS0.2) hS0.2⟩
          have hbs := run_buildSlice_one (P := Try.prog) (w := wr.drew) (v := .string (strB (blkOf l k))) Try.underlying29 Try.sizeOf9 Try.zeroValue9 rfl (by omega) (by omega)
          refine opRun 18 72 (v := .slice (some ⟨wr.drew.heap.size, 0, none⟩) 1 1) rfl rfl (by kernel_rfl) (exec_buildSlice1 rfl rfl hbs) ⟨.inr ⟨belowCell hbA (ltOf hS0.1) hS0.1, belowCell hbA (ltOf hS0.2) hS0.2⟩, ?_⟩
          simp only [Act.put, List.setIfInBounds_toArray, List.set_cons_zero, List.set_cons_succ]
          refine onlyRun 16 70 (v := q1) rfl rfl (by kernel_rfl) rfl (exec_append rfl rfl rfl hcp) (.inr hS1') ?_
          simp only [Act.put, List.setIfInBounds_toArray, List.set_cons_zero, List.set_cons_succ]
          refine onlyRun 19 73 (v := .slice (some ⟨g, 0, none⟩) (((d.since ((at_ + k : Nat) : Int)).getD []).length + 1) c) rfl rfl (by kernel_rfl) rfl (exec_append rfl rfl rfl happ) (.inr ⟨hc, hcQ⟩) ?_
          simp only [Act.put, List.setIfInBounds_toArray, List.set_cons_zero, List.set_cons_succ]
          refine take 20 74 (v := .pointer (some ⟨Q, at_ + k, none⟩)) rfl rfl (by kernel_rfl) (by kernel_rfl) (by kernel_rfl) rfl (fun W hW => exec_indexAddr rfl rfl rfl (hix W)) (.intro hc hcQ) ?_
          simp only [Act.put, List.setIfInBounds_toArray, List.set_cons_zero, List.set_cons_succ]
          have hA2 : RefAt (V2.setCell ⟨Q, at_ + k, none⟩ (.slice (some ⟨g, 0, none⟩) (((d.since ((at_ + k : Nat) : Int)).getD []).length + 1) c)) (fun b => R b ∨ w.heap.size ≤ b) r { d.stepped.wrote true at_ l k with since := (d.stepped.wrote true at_ l (k + 1)).since } F X L cL S cS Q cQ (qs'.set (at_ + k) (.slice (some ⟨g, 0, none⟩) (((d.since ((at_ + k : Nat) : Int)).getD []).length + 1) c)) := RefAt.appended (w := w) (V := wr.drew) (HA.out.touch ((Touch.refl (fun _ => False) wr).drew) (fun _ _ h => h)) (by show at_ + k < d.size; omega) hT2 hrow hg (by show w.heap.size ≤ wr.heap.size; exact HT.out.size)
          have hfQ : V2.frozen? ⟨Q, at_ + k, none⟩ = false := (HA.out.since.touch (((Touch.refl (fun _ => False) wr).drew).trans hT2) (fun h => h)).free _
          refine onlySkip 21 rfl rfl (by kernel_rfl) rfl (exec_store rfl rfl rfl (put_strs hcQ hfQ)) (.inl (by kernel_rfl)) ?_
          refine done (by kernel_rfl) ?_ _
          have hTQ : Touch R w (V2.setCell ⟨Q, at_ + k, none⟩ (.slice (some ⟨g, 0, none⟩) (((d.since ((at_ + k : Nat) : Int)).getD []).length + 1) c)) := (((HT.out.drew).step hT2 (fun _ _ h => h.elim))).setCell (HA.out.foot Q (by simp)) _
          generalize hW3 : V2.setCell _ _ = W3 at *
          clear hW3
          rw [wrote_fail_eq] at hA2
          have HA3 := Lib.hid (And.intro hA2 hTQ)
          clear hA2 hTQ hfQ hS0 hq1 hown hsn hown' hf2 hadd hix hS hcp hb1 happ hrow hT2 hg hc hcQ hbA hbV hS1' hbs Hp HA HT hS1 Hq
          go_wp2
          go_roundw
          case rel => exact ⟨k + 1, _, by omega, by go_num, HA3.out⟩
          case measure => simp [intOf]; omega
      · obtain rfl : k = m := by omega
        have Hfin := Lib.hid (And.intro (⟨X, L, cL, S, cS, Q, cQ, qs', hA⟩ : Ref wr (fun b => R b ∨ w.heap.size ≤ b) r _ F) hT)
        clear hA hT
        go_wp2
        go_ret
        exact ⟨rfl, Hfin.out⟩
end Go.Proofs.Ytmgajgeoibbmjaa
