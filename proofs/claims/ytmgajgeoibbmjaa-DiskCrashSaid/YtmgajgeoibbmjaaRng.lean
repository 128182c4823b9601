/- A range over a map with int keys that no round turns: start, step, entry. Nothing of the program is named here. -/
import Derived.Test.YtmgajgeoibbmjaaMaps
import Derived.Laws.IdiomRangeMap
namespace Go.Proofs.Ytmgajgeoibbmjaa
open Go.RowKit

/-- The iterator at block r goes over the map at block b, which holds m; the keys ks came already, the last of them last. -/
structure Rng (w : World) (r b : Nat) (m : Int → Option Value) (ks : List Int) : Prop where
  ex : ∃ es clk seen, w.heap[b]? = some (.map es clk) ∧ w.heap[r]? = some (.mapIter (some b) clk seen clk) ∧ GoodE es.toList clk ∧ (∀ k, getE es.toList k = m k) ∧
    (∀ e ∈ es.toList, ∀ k, keyI e = some k → (k ∈ ks ↔ e.born ∈ seen.toList)) ∧ (∀ k ∈ ks, (m k).isSome = true) ∧
    (∀ k, ks.getLast? = some k → ∃ e ∈ es.toList, keyI e = some k ∧ seen.back? = some e.born)

def rngLeft (w : World) (r b : Nat) : Nat := match w.heap[r]?, w.heap[b]? with
  | some (.mapIter _ _ seen _), some (.map es _) => (leftOf es seen).size
  | _, _ => 0

theorem getE_mem {es : List MapEntry} (hk : (keysOf es).Nodup) {e : MapEntry} (he : e ∈ es) {k : Int} (hke : keyI e = some k) : getE es k = some e.val := by
  induction es with
  | nil => cases he
  | cons x r ih =>
    unfold getE
    rcases List.mem_cons.1 he with rfl | h
    · rw [if_pos hke]
    · by_cases hx : keyI x = some k
      · exfalso
        have h1 : k ∈ keysOf r := List.mem_filterMap.2 ⟨e, h, hke⟩
        unfold keysOf at hk
        rw [List.filterMap_cons, hx] at hk
        exact (List.nodup_cons.1 hk).1 h1
      · rw [if_neg hx]
        refine ih ?_ h
        unfold keysOf at hk
        rw [List.filterMap_cons] at hk
        cases hq : keyI x with
        | none => rw [hq] at hk; exact hk
        | some j => rw [hq] at hk; exact (List.nodup_cons.1 hk).2
theorem getE_some {es : List MapEntry} {k : Int} {v : Value} (h : getE es k = some v) : ∃ e ∈ es, keyI e = some k ∧ e.val = v := by
  induction es with
  | nil => cases h
  | cons x r ih =>
    unfold getE at h
    split at h
    · rename_i hx; exact ⟨x, by simp, hx, by simpa using h⟩
    · obtain ⟨e, h1, h2⟩ := ih h; exact ⟨e, by simp [h1], h2⟩

theorem entry_eq {es : List MapEntry} (hb : (es.map (·.born)).Nodup) {e e' : MapEntry} (h1 : e ∈ es) (h2 : e' ∈ es) (h : e.born = e'.born) : e = e' := by
  have k1 := find_born e es hb h1
  have k2 := find_born e' es hb h2
  rw [h, k2] at k1
  exact (Option.some.inj k1).symm
theorem born_eq {es : List MapEntry} (hk : (keysOf es).Nodup) {e e' : MapEntry} {k : Int} (h1 : e ∈ es) (h2 : e' ∈ es) (g1 : keyI e = some k) (g2 : keyI e' = some k) : e.born = e'.born := by
  induction es with
  | nil => cases h1
  | cons x r ih =>
    have hk2 : (keysOf r).Nodup := by
      unfold keysOf at hk ⊢
      rw [List.filterMap_cons] at hk
      cases hq : keyI x with
      | none => rw [hq] at hk; exact hk
      | some j => rw [hq] at hk; exact (List.nodup_cons.1 hk).2
    have hno : ∀ y ∈ r, keyI x = some k → keyI y = some k → False := fun y hy hx hy2 => by
      unfold keysOf at hk
      rw [List.filterMap_cons, hx] at hk
      exact (List.nodup_cons.1 hk).1 (List.mem_filterMap.2 ⟨y, hy, hy2⟩)
    rcases List.mem_cons.1 h1 with rfl | h1' <;> rcases List.mem_cons.1 h2 with rfl | h2'
    · rfl
    · exact (hno _ h2' g1 g2).elim
    · exact (hno _ h1' g2 g1).elim
    · exact ih hk2 h1' h2'
theorem filter_lt_arr (es : Array MapEntry) (seen : Array Nat) (e : MapEntry) (he : e ∈ es.toList) (hn : e.born ∉ seen.toList) :
    (es.filter fun x => !(seen.push e.born).contains x.born).size < (es.filter fun x => !seen.contains x.born).size := by
  have hs : ∀ p : MapEntry → Bool, (es.filter p).size = (es.toList.filter p).length := fun p => Array.length_toList.symm.trans (congrArg List.length Array.toList_filter)
  rw [hs, hs]
  refine filter_lt (fun x : MapEntry => !seen.contains x.born) (fun x => !(seen.push e.born).contains x.born) (fun x hx => ?_) e ?_ ?_ _ he
  · simp at hx ⊢; exact hx.1
  · simp at hn ⊢; exact hn
  · simp

section
variable {P : Program} {T K E : TypeId} {w : World} {r b : Nat} {m : Int → Option Value} {ks : List Int}

theorem Rng.touch {S : Nat → Prop} {w' : World} (h : Rng w r b m ks) (g : Touch S w w') (h1 : ¬ S r) (h2 : ¬ S b) : Rng w' r b m ks := by
  obtain ⟨es, clk, seen, k1, k2, k3⟩ := h
  exact ⟨es, clk, seen, g.heap k1 h2, g.heap k2 h1, k3⟩
theorem Rng.below {w' : World} (h : Rng w r b m ks) (g : Below w.heap.size w w') : Rng w' r b m ks := by
  obtain ⟨es, clk, seen, k1, k2, k3⟩ := h
  exact ⟨es, clk, seen, (g.block _ (Array.getElem?_eq_some_iff.1 k1).1).trans k1, (g.block _ (Array.getElem?_eq_some_iff.1 k2).1).trans k2, k3⟩
theorem Rng.map (h : Rng w r b m ks) : IntMap w b m := by
  obtain ⟨es, clk, seen, k1, k2, k3, k4, _⟩ := h
  exact ⟨es, clk, k1, k3, k4⟩
theorem Rng.lt (h : Rng w r b m ks) : r < w.heap.size := by
  obtain ⟨es, clk, seen, k1, k2, _⟩ := h; exact (Array.getElem?_eq_some_iff.1 k2).1
theorem Rng.left_touch {S : Nat → Prop} {w' : World} (h : Rng w r b m ks) (g : Touch S w w') (h1 : ¬ S r) (h2 : ¬ S b) : rngLeft w' r b = rngLeft w r b := by
  obtain ⟨es, clk, seen, k1, k2, k3⟩ := h
  unfold rngLeft
  rw [g.heap k1 h2, g.heap k2 h1, k1, k2]

theorem rng_start (h : IntMap w b m) (ht : P.underlying T = some (.map K E)) :
    ∃ w', (Instr.range T (.map (some b))).run P w = .ok (.pointer (some ⟨w.heap.size, 0, none⟩)) w' ∧ Rng w' w.heap.size b m [] ∧ Below w.heap.size w w' ∧ w'.heap.size = w.heap.size + 1 := by
  obtain ⟨es, clk, h1, h2, h3⟩ := h
  refine ⟨_, run_range_map w T K E b es clk ht h1, ⟨es, clk, #[], ?_, heap_alloc_new _ _, h2, h3, ?_, ?_, ?_⟩, (Below.refl _ _).alloc (Nat.le_refl _) _, by simp⟩
  · rw [Below.heap_alloc _ _ _ (by have := (Array.getElem?_eq_some_iff.1 h1).1; omega)]; exact h1
  · intro e _ k _; simp
  · intro k hk; cases hk
  · intro k hk; cases hk

theorem mem_left {es : Array MapEntry} {seen : Array Nat} {e : MapEntry} : e ∈ (leftOf es seen).toList ↔ e ∈ es.toList ∧ e.born ∉ seen.toList := by
  unfold leftOf; simp

/-- The step. -/
theorem rng_next (h : Rng w r b m ks) (ty : TypeId) :
    ((Instr.next (.pointer (some ⟨r, 0, none⟩)) false ty).run P w = .ok (.tuple #[.bool false]) w ∧ ∀ k, (m k).isSome = true → k ∈ ks) ∨
    ∃ k v w', (Instr.next (.pointer (some ⟨r, 0, none⟩)) false ty).run P w = .ok (.tuple #[.bool true, .int .i64 k, v]) w' ∧ m k = some v ∧ k ∉ ks ∧ Rng w' r b m (ks ++ [k]) ∧ Touch (fun x => x = r) w w' ∧ w'.heap.size = w.heap.size ∧ rngLeft w' r b < rngLeft w r b := by
  obtain ⟨es, clk, seen, k1, k2, k3, k4, k5, k6, k7⟩ := h
  have hbr : b ≠ r := fun e => by subst e; rw [k1] at k2; cases k2
  have hrlt : r < w.heap.size := (Array.getElem?_eq_some_iff.1 k2).1
  have e0 : (Instr.next (.pointer (some ⟨r, 0, none⟩)) false ty).run P w = ((choose (Question.mapNext ((if (leftOf es seen).isEmpty then #[none] else #[]) ++ (leftOf es seen).map some).size)).run P w).andThen fun i w1 =>
      (match ((if (leftOf es seen).isEmpty then #[none] else #[]) ++ (leftOf es seen).map some)[i]? with
        | some (some e) => do
          setObj r (.mapIter (some b) clk (seen.push e.born) clk)
          pure (.tuple #[.bool true, e.key, e.val])
        | some none => pure (.tuple #[.bool false])
        | none => stuck "Next: no such candidate" : Sem Value).run P w1 := by
    simp only [Instr.next, getObj, Sem.run_bind, Sem.run, k1, k2, Result.andThen, next_test_false seen es clk clk k3.clock (Nat.le_refl _), Bool.false_eq_true, if_false]
    have hmem : ∀ x ∈ (Array.filter (fun e => !seen.contains e.born) es).toList, x.born < clk := fun x hx => k3.clock x (by simp at hx ⊢; exact hx.1)
    unfold leftOf
    generalize Array.filter (fun e => !seen.contains e.born) es = L at hmem ⊢
    have e1 : L.filter (fun x => decide (x.born < clk)) = L := Array.filter_eq_self.2 (fun x hx => by simpa using hmem x (by simpa using hx))
    have e2 : L.filter (fun x => decide (x.born ≥ clk)) = #[] := by
      rw [Array.filter_eq_empty_iff]
      intro x hx
      have := hmem x (by simpa using hx)
      simp
      omega
    simp only [e1, e2, Array.append_empty]
    rfl
  rw [e0]
  by_cases h0 : (leftOf es seen).size = 0
  · left
    have hL : leftOf es seen = #[] := Array.eq_empty_of_size_eq_zero h0
    rw [hL]
    refine ⟨by simp [choose, Sem.run, Question.forced, Result.andThen], fun k hk => ?_⟩
    obtain ⟨v, hv⟩ := Option.isSome_iff_exists.1 hk
    rw [← k4] at hv
    obtain ⟨e, he, hke, _⟩ := getE_some hv
    rw [k5 e he k hke]
    by_cases hs : e.born ∈ seen.toList
    · exact hs
    · have := (mem_left (es := es) (seen := seen)).2 ⟨he, hs⟩
      rw [hL] at this; cases this
  · right
    have hch : ∃ (j : Nat) (w1 : World), j < (leftOf es seen).size ∧ (w1 = w ∨ w1 = w.drew) ∧ (choose (Question.mapNext (leftOf es seen).size)).run P w = .ok j w1 := by
      by_cases hf : (leftOf es seen).size ≤ 1
      · exact ⟨0, w, by omega, .inl rfl, by simp [choose, Sem.run, Question.forced, hf]⟩
      · exact ⟨_, w.drew, Nat.mod_lt _ (by omega), .inr rfl, by
          simp only [choose, Sem.run, Question.forced, decide_eq_true_eq, hf, if_false, Question.cut]
          rfl⟩
    obtain ⟨j, w1, hj, hw1, hrun⟩ := hch
    have hne : (leftOf es seen).isEmpty = false := by simp [Array.isEmpty, h0]
    have hem : (leftOf es seen)[j] ∈ (leftOf es seen).toList := by simp
    obtain ⟨hes, hns⟩ := mem_left.1 hem
    have hje : (leftOf es seen)[j]? = some (leftOf es seen)[j] := by simp [hj]
    generalize (leftOf es seen)[j] = e at *
    obtain ⟨k, hk⟩ := k3.int e hes
    have hke : keyI e = some k := keyI_of hk
    have hkks : k ∉ ks := fun h => hns ((k5 e hes k hke).1 h)
    have hmk : m k = some e.val := by rw [← k4]; exact getE_mem k3.keys hes hke
    have hwh : w1.heap = w.heap := by rcases hw1 with rfl | rfl <;> rfl
    have hset : ∀ o' : Obj, (setObj r o').run P w1 = .ok () (w1.putObj r o') := fun o' => by
      have h2 : w1.heap[r]? = some (.mapIter (some b) clk seen clk) := by rw [hwh]; exact k2
      simp only [setObj, Sem.run, h2]
      rfl
    have hT1 : Touch (fun x => x = r) w w1 := by rcases hw1 with rfl | rfl <;> first | exact Touch.refl _ _ | exact (Touch.refl _ _).drew
    have hT : Touch (fun x => x = r) w (w1.putObj r (.mapIter (some b) clk (seen.push e.born) clk)) := hT1.putObj (.inl rfl) _
    have hb2 : (w1.putObj r (.mapIter (some b) clk (seen.push e.born) clk)).heap[b]? = some (.map es clk) := by
      rw [World.putObj_heap_other hbr, hwh]; exact k1
    have hr2 : (w1.putObj r (.mapIter (some b) clk (seen.push e.born) clk)).heap[r]? = some (.mapIter (some b) clk (seen.push e.born) clk) := putObj_self (o := .mapIter (some b) clk seen clk) (by rw [hwh]; exact k2)
    refine ⟨k, e.val, w1.putObj r (.mapIter (some b) clk (seen.push e.born) clk), ?_, hmk, hkks, ⟨es, clk, seen.push e.born, hb2, hr2, k3, k4, ?_, ?_, ?_⟩, hT, by simp [hwh], ?_⟩
    · simp only [hne, Bool.false_eq_true, if_false, Array.empty_append, Array.size_map, hrun, Result.andThen, Array.getElem?_map, hje, Option.map_some, Sem.run_bind, hset, Sem.run_pure, hk]
    · intro e' he' k' hk'
      rw [List.mem_append, List.mem_singleton, k5 e' he' k' hk', Array.toList_push, List.mem_append, List.mem_singleton]
      constructor
      · rintro (h | rfl)
        · exact .inl h
        · right
          have h1 := getE_mem k3.keys hes hke
          exact born_eq k3.keys he' hes hk' hke
      · rintro (h | h)
        · exact .inl h
        · right
          have := entry_eq k3.born he' hes h
          subst this
          rw [hk'] at hke; exact Option.some.inj hke
    · intro k' hk'
      rcases List.mem_append.1 hk' with h | h
      · exact k6 k' h
      · rw [List.mem_singleton.1 h, hmk]; rfl
    · intro k' hk'
      rw [List.getLast?_append] at hk'
      simp at hk'
      subst hk'
      exact ⟨e, hes, hke, by simp⟩
    · unfold rngLeft
      rw [hb2, hr2, k1, k2]
      simp only
      unfold leftOf
      exact filter_lt_arr es seen e hes hns

/-- The entry behind the step. -/
theorem rng_entry {k : Int} {v : Value} (h : Rng w r b m (ks ++ [k])) (hv : m k = some v) : (Instr.entry (.pointer (some ⟨r, 0, none⟩))).run P w = .ok (.tuple #[.int .i64 k, v]) w := by
  obtain ⟨es, clk, seen, k1, k2, k3, k4, k5, k6, k7⟩ := h
  obtain ⟨e, he, hke, hback⟩ := k7 k (by simp)
  have hf : es.find? (·.born == e.born) = some e := by rw [← Array.find?_toList]; exact find_born e es.toList k3.born he
  have hval : e.val = v := by
    have := getE_mem k3.keys he hke
    rw [k4, hv] at this
    exact (Option.some.inj this).symm
  have hkey : e.key = .int .i64 k := by
    obtain ⟨j, hj⟩ := k3.int e he
    rw [keyI_of hj] at hke
    rw [hj, Option.some.inj hke]
  simp only [Instr.entry, getObj, Sem.run_bind, Sem.run, k1, k2, Result.andThen, hback, bne_self_eq_false, Bool.false_eq_true, if_false, hf, hkey, hval]
  rfl
end
theorem rng_step {P : Program} {w : World} {r b : Nat} {m : Int → Option Value} {ks : List Int} (h : Rng w r b m ks) :
    ((∀ ty, (Instr.next (.pointer (some ⟨r, 0, none⟩)) false ty).run P w = .ok (.tuple #[.bool false]) w) ∧ ∀ k, (m k).isSome = true → k ∈ ks) ∨
    ∃ k v w', (∀ ty, (Instr.next (.pointer (some ⟨r, 0, none⟩)) false ty).run P w = .ok (.tuple #[.bool true, .int .i64 k, v]) w') ∧ m k = some v ∧ k ∉ ks ∧ Rng w' r b m (ks ++ [k]) ∧ Touch (fun x => x = r) w w' ∧ w'.heap.size = w.heap.size ∧ rngLeft w' r b < rngLeft w r b ∧
      (∀ w'', Rng w'' r b m (ks ++ [k]) → (Instr.entry (.pointer (some ⟨r, 0, none⟩))).run P w'' = .ok (.tuple #[.int .i64 k, v]) w'') := by
  rcases rng_next (P := P) h 0 with ⟨h1, h2⟩ | ⟨k, v, w', h1, h2, h3, h4, h5, h6, h7⟩
  · exact .inl ⟨fun _ => h1, h2⟩
  · exact .inr ⟨k, v, w', fun _ => h1, h2, h3, h4, h5, h6, h7, fun w'' g => rng_entry g h2⟩

end Go.Proofs.Ytmgajgeoibbmjaa
