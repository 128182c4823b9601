/- Maps whose keys are strings, as functions: what a lookup, a store do. Nothing of the program is named here. -/
import Derived.Test.YtnkaegdnjfpliaaGreatDoorBase
import Derived.Laws.StructEq
namespace Go.Proofs.YtnkaegdnjfpliaaGreatDoor
set_option linter.unusedSimpArgs false
set_option linter.unusedVariables false
open Go.RowKit

/-- An entry's key, if it is a string. -/
def keyS (e : MapEntry) : Option (List UInt8) := match e.key with | .string s => some s.data.toList | _ => none
theorem keyS_of {e : MapEntry} {k : List UInt8} (h : e.key = .string (strB k)) : keyS e = some k := by simp [keyS, h, strB]

theorem strB_eqb (a b : List UInt8) : (strB a == strB b) = decide (a = b) := by
  rw [beq_toListBytes, strB_toList, strB_toList]
  rw [Bool.eq_iff_iff, beq_iff_eq, decide_eq_true_iff]
/-- The value under a key, in a map's entries. -/
def getE (es : List MapEntry) (k : List UInt8) : Option Value :=
  match es with
  | [] => none
  | e :: r => if keyS e = some k then some e.val else getE r k

def keysOf (es : List MapEntry) : List (List UInt8) := es.filterMap keyS

/-- The entries of a map with string keys: each key once, each birth once. -/
structure GoodE (es : List MapEntry) (clk : Nat) : Prop where
  int : ∀ e ∈ es, ∃ k, e.key = .string (strB k)
  keys : (keysOf es).Nodup
  born : (es.map (·.born)).Nodup
  clock : ∀ e ∈ es, e.born < clk

/-- Block b of w is a map with string keys, which holds m. -/
def StrMap (w : World) (b : Nat) (m : List UInt8 → Option Value) : Prop :=
  ∃ es clk, w.heap[b]? = some (.map es clk) ∧ GoodE es.toList clk ∧ ∀ k, getE es.toList k = m k

theorem StrMap.lt {w : World} {b : Nat} {m : List UInt8 → Option Value} (h : StrMap w b m) : b < w.heap.size := by
  obtain ⟨es, clk, h1, _⟩ := h; exact (Array.getElem?_eq_some_iff.1 h1).1
theorem StrMap.of_heap {w w' : World} {b : Nat} {m : List UInt8 → Option Value} (h : StrMap w b m) (hb : w'.heap[b]? = w.heap[b]?) : StrMap w' b m := by
  obtain ⟨es, clk, h1, h2⟩ := h; exact ⟨es, clk, hb.trans h1, h2⟩
theorem StrMap.touch {S : Nat → Prop} {w w' : World} {b : Nat} {m : List UInt8 → Option Value} (h : StrMap w b m) (g : Touch S w w') (hs : ¬ S b) : StrMap w' b m :=
  h.of_heap (g.block b h.lt hs)
theorem StrMap.grow {w w' : World} {b : Nat} {m : List UInt8 → Option Value} (h : StrMap w b m) (g : Below w.heap.size w w') : StrMap w' b m := h.of_heap (g.block b h.lt)
theorem StrMap.fresh {w : World} {b : Nat} (h : w.heap[b]? = some (.map #[] 0)) : StrMap w b (fun _ => none) :=
  ⟨#[], 0, h, ⟨by simp, by simp [keysOf], by simp, by simp⟩, fun _ => rfl⟩
theorem StrMap.made (w : World) : StrMap (w.alloc (.map #[] 0)) w.heap.size (fun _ => none) :=
  ⟨#[], 0, heap_alloc_new w _, ⟨by simp, by simp [keysOf], by simp, by simp⟩, fun _ => rfl⟩

theorem findNow_str {es : List MapEntry} (hi : ∀ e ∈ es, ∃ k, e.key = .string (strB k)) (k : List UInt8) (i : Nat) :
    ∃ r, Instr.findNow .string (.string (strB k)) es i = some r ∧ r.map (·.2) = getE es k ∧ ∀ p, r = some p → i ≤ p.1 ∧ p.1 - i < es.length ∧ ∃ e, es[p.1 - i]? = some e ∧ e.key = .string (strB k) := by
  induction es generalizing i with
  | nil => exact ⟨none, rfl, rfl, fun p h => by cases h⟩
  | cons e r ih =>
    obtain ⟨j, hj⟩ := hi e (by simp)
    by_cases hjk : k = j
    · subst hjk
      refine ⟨some (i, e.val), by simp [Instr.findNow, hj, Instr.sameNow, strB_eqb], by simp [getE, keyS_of hj], fun p h => ?_⟩
      cases h
      exact ⟨Nat.le_refl _, by simp, e, by simp, hj⟩
    · obtain ⟨q, h1, h2, h3⟩ := ih (fun e he => hi e (by simp [he])) (i + 1)
      refine ⟨q, ?_, ?_, fun p h => ?_⟩
      · have : (strB k == strB j) = false := by rw [strB_eqb, decide_eq_false_iff_not]; exact hjk
        simp only [Instr.findNow, hj, Instr.sameNow, if_true, this]; exact h1
      · rw [h2]; simp [getE, keyS_of hj, Ne.symm hjk]
      · obtain ⟨a, b, e', c, d⟩ := h3 p h
        refine ⟨by omega, by simp; omega, e', ?_, d⟩
        have : p.1 - i = (p.1 - (i + 1)) + 1 := by omega
        rw [this]; simpa using c

section
variable {P : Program} {T K E : TypeId} {w : World} {b : Nat} {m : List UInt8 → Option Value}

theorem run_checkKey_str (hK : P.underlying K = some .string) (empty : Bool) (k : List UInt8) (w : World) : (Instr.checkKey empty 10000 K (.string (strB k))).run P w = .ok () w := by
  have : (10000 : Nat) = 9999 + 1 := rfl
  rw [this, Instr.checkKey]
  simp [Sem.run_bind, run_underlying hK, Result.andThen]

theorem run_findKey_str (hK : P.underlying K = some .string) {es : List MapEntry} (hi : ∀ e ∈ es, ∃ k, e.key = .string (strB k)) (k : List UInt8) (w : World) :
    ∃ r, (Instr.findKey K (.string (strB k)) es).run P w = .ok r w ∧ r.map (·.2) = getE es k ∧ ∀ p, r = some p → p.1 < es.length ∧ ∃ e, es[p.1]? = some e ∧ e.key = .string (strB k) := by
  obtain ⟨r, h1, h2, h3⟩ := findNow_str hi k 0
  refine ⟨r, ?_, h2, fun p h => ?_⟩
  · simp [Instr.findKey, Sem.run_bind, run_underlying hK, Result.andThen, h1]
  · have := h3 p h; simpa using this

/-- A lookup. -/
theorem run_lookup_str (h : StrMap w b m) (hT : P.underlying T = some (.map K E)) (hK : P.underlying K = some .string) {z : Value} (hz : ∀ w, (zeroValue E).run P w = .ok z w) (k : List UInt8) :
    (Instr.lookup T (.map (some b)) (.string (strB k)) false).run P w = .ok ((m k).getD z) w := by
  obtain ⟨es, clk, hb, hg, hm⟩ := h
  obtain ⟨r, h1, h2, _⟩ := run_findKey_str (P := P) hK hg.int k w
  rw [hm] at h2
  unfold Instr.lookup
  simp only [Sem.run_bind, run_underlying hT, Result.andThen_ok, getObj, Sem.run, hb, Sem.run_pure, run_checkKey_str hK, h1]
  cases r with
  | none => simp [← h2, hz]
  | some p => simp [← h2]

theorem run_lookup_nilS (hT : P.underlying T = some (.map K E)) (hK : P.underlying K = some .string) {z : Value} (hz : ∀ w, (zeroValue E).run P w = .ok z w) (k : List UInt8) :
    (Instr.lookup T (.map none) (.string (strB k)) false).run P w = .ok z w := by
  unfold Instr.lookup
  simp only [Sem.run_bind, run_underlying hT, Result.andThen_ok, Sem.run_pure, run_checkKey_str hK]
  simp [Instr.findKey, run_underlying hK, Result.andThen, Instr.findNow, hz]

def updS (m : List UInt8 → Option Value) (k : List UInt8) (v : Value) : List UInt8 → Option Value := fun j => if j = k then some v else m j

theorem getE_none {es : List MapEntry} {k : List UInt8} (h : getE es k = none) : k ∉ keysOf es := by
  induction es with
  | nil => simp [keysOf]
  | cons e r ih =>
    unfold getE at h
    split at h
    · cases h
    · rename_i hne
      unfold keysOf
      rw [List.filterMap_cons]
      cases hk : keyS e with
      | none => exact ih h
      | some j =>
        simp only [List.mem_cons, not_or]
        exact ⟨fun e' => hne (by rw [hk, e']), ih h⟩

theorem getE_append (es : List MapEntry) (k j : List UInt8) (v : Value) (c : Nat) : getE (es ++ [{ key := .string (strB k), val := v, born := c }]) j = match getE es j with | some u => some u | none => if k = j then some v else none := by
  induction es with
  | nil => simp [getE, keyS, strB]
  | cons e r ih =>
    simp only [List.cons_append, getE]
    split
    · rfl
    · exact ih

theorem keysOf_set {es : List MapEntry} {i : Nat} {e e' : MapEntry} (h : es[i]? = some e) (hk : keyS e' = keyS e) : keysOf (es.set i e') = keysOf es := by
  induction es generalizing i with
  | nil => simp at h
  | cons x r ih =>
    cases i with
    | zero => simp at h; subst h; simp [keysOf, List.filterMap_cons, hk]
    | succ i => simp at h; simp only [List.set_cons_succ, keysOf, List.filterMap_cons]; have := ih h; unfold keysOf at this; rw [this]

theorem getE_set {es : List MapEntry} (hn : (keysOf es).Nodup) {i : Nat} {e e' : MapEntry} {k : List UInt8} {v : Value} (h : es[i]? = some e) (hk : keyS e = some k) (hk' : keyS e' = some k) (hv : e'.val = v) (j : List UInt8) :
    getE (es.set i e') j = if j = k then some v else getE es j := by
  induction es generalizing i with
  | nil => simp at h
  | cons x r ih =>
    have hn' : (keysOf r).Nodup := by
      simp only [keysOf, List.filterMap_cons] at hn
      split at hn
      · exact hn
      · exact (List.nodup_cons.1 hn).2
    cases i with
    | zero =>
      simp at h; subst h
      simp only [List.set_cons_zero, getE, hk', hk, hv]
      by_cases hjk : j = k
      · simp [hjk]
      · simp [hjk, Ne.symm hjk]
    | succ i =>
      simp at h
      have hmem : k ∈ keysOf r := by
        simp only [keysOf, List.mem_filterMap]; exact ⟨e, List.mem_of_getElem? h, hk⟩
      simp only [List.set_cons_succ, getE, ih hn' h]
      split
      · rename_i hq
        have : j ≠ k := fun ejk => by
          simp only [keysOf, List.filterMap_cons, hq] at hn
          exact (List.nodup_cons.1 hn).1 (by rw [ejk]; exact hmem)
        simp [this]
      · rfl

theorem modify_toList (es : Array MapEntry) (i : Nat) (e : MapEntry) (f : MapEntry → MapEntry) (h : es[i]? = some e) : (es.modify i f).toList = es.toList.set i (f e) := by
  apply List.ext_getElem?
  intro n
  rw [List.getElem?_set, Array.getElem?_toList, Array.getElem?_modify]
  split
  · rename_i hn; subst hn; obtain ⟨hlt, he⟩ := Array.getElem?_eq_some_iff.1 h; simp [hlt, he]
  · simp

/-- A store. -/
theorem run_mapUpdate_str (h : StrMap w b m) (hT : P.underlying T = some (.map K E)) (hK : P.underlying K = some .string) (k : List UInt8) (v : Value) :
    ∃ w', (Instr.mapUpdate T (.map (some b)) (.string (strB k)) v).run P w = .ok () w' ∧ Touch (fun x => x = b) w w' ∧ StrMap w' b (updS m k v) ∧ w'.heap.size = w.heap.size := by
  obtain ⟨es, clk, hb, hg, hm⟩ := h
  obtain ⟨r, h1, h2, h3⟩ := run_findKey_str (P := P) hK hg.int k w
  rw [hm] at h2
  unfold Instr.mapUpdate
  simp only [Sem.run_bind, run_underlying hT, Result.andThen_ok, getObj, Sem.run, hb, Sem.run_pure, run_checkKey_str hK, h1]
  cases r with
  | none =>
    have hmk : m k = none := by simpa using h2.symm
    refine ⟨w.putObj b (.map (es.push { key := .string (strB k), val := v, born := clk }) (clk + 1)), ?_, (Touch.refl _ _).putObj (.inl (by exact rfl)) _, ⟨_, _, putObj_self hb, ?_, ?_⟩, by simp⟩
    · simp [setObj, Sem.run, hb, World.putObj]
    · refine ⟨?_, ?_, ?_, ?_⟩
      · intro e he
        rw [Array.toList_push] at he
        rcases List.mem_append.1 he with he | he
        · exact hg.int e he
        · cases List.mem_singleton.1 he; exact ⟨k, rfl⟩
      · have := getE_none ((hm k).trans hmk)
        simp only [Array.toList_push, keysOf, List.filterMap_append, List.filterMap_cons, List.filterMap_nil, keyS]
        rw [List.nodup_append]
        refine ⟨hg.keys, by simp, fun a ha c hc => ?_⟩
        simp only [List.mem_singleton] at hc
        subst hc; exact fun e => this (by rw [← e]; exact ha)
      · simp only [Array.toList_push, List.map_append, List.map_cons, List.map_nil]
        rw [List.nodup_append]
        refine ⟨hg.born, by simp, fun a ha c hc => ?_⟩
        simp only [List.mem_singleton] at hc
        obtain ⟨e, he, rfl⟩ := List.mem_map.1 ha
        have := hg.clock e he
        omega
      · intro e he
        simp only [Array.toList_push, List.mem_append, List.mem_singleton] at he
        rcases he with he | rfl
        · have := hg.clock e he; omega
        · simp
    · intro j
      rw [Array.toList_push, getE_append, hm]
      unfold updS
      by_cases hjk : j = k
      · subst hjk; simp [hmk]
      · simp only [hjk, Ne.symm hjk, if_false]
        cases m j <;> rfl
  | some p =>
    obtain ⟨i, u⟩ := p
    obtain ⟨hlt, e, he, hke⟩ := h3 _ rfl
    have hlt' : i < es.size := by simpa using hlt
    have he' : es[i]? = some e := by simpa using he
    have hkt : (Instr.keyThatStays (((es[i]?).map (·.key)).getD (.string (strB k))) (.string (strB k))).run P w = .ok (.string (strB k)) w := by
      simp only [he', Option.map_some, Option.getD_some, hke, Instr.keyThatStays]
      simp [Instr.sameBits, strB_eqb]
    refine ⟨w.putObj b (.map (es.modify i fun e => { e with key := .string (strB k), val := v }) clk), ?_, (Touch.refl _ _).putObj (.inl (by exact rfl)) _, ⟨_, _, putObj_self hb, ?_, ?_⟩, by simp⟩
    · simp only [Sem.run_bind, hkt, Result.andThen_ok]
      simp [setObj, Sem.run, hb, World.putObj]
    · rw [modify_toList es i e _ he']
      refine ⟨?_, ?_, ?_, ?_⟩
      · intro e' h'
        rcases List.mem_or_eq_of_mem_set h' with h' | rfl
        · exact hg.int e' h'
        · exact ⟨k, rfl⟩
      · rw [keysOf_set he (by simp [keyS, hke])]; exact hg.keys
      · rw [List.map_set]
        have : (es.toList.map (·.born)).set i e.born = es.toList.map (·.born) := by
          apply List.ext_getElem?
          intro n
          rw [List.getElem?_set]
          split
          · rename_i h; subst h; simp [he']; omega
          · rfl
        simp only [this]; exact hg.born
      · intro e' h'
        rcases List.mem_or_eq_of_mem_set h' with h' | rfl
        · exact hg.clock e' h'
        · exact hg.clock e (List.mem_of_getElem? he)
    · intro j
      rw [modify_toList es i e _ he', getE_set hg.keys he (keyS_of hke) rfl rfl, hm]
      rfl
end
theorem wpList_mapUpdate {P : Program} {w w' : World} {a : Act} {o : Oper} {ops : Array Oper} {rest : List Oper} {Q : Exit → Act → World → Prop} {t : TypeId} {x y z : Operand} {m k u : Value} (hg : o.guard = none) (ho : o.op = .mapUpdate t x y z) (hx : a.eval x = m) (hy : a.eval y = k) (hz : a.eval z = u)
    (hr : (Instr.mapUpdate t m k u).run P w = .ok () w') (h : wpList P ops Q rest (a.put o.dst undef) w') : wpList P ops Q (o :: rest) a w :=
  wpList_plain hg fun K hK => by unfold Oper.wp; rw [exec_mapUpdate ho hx hy hz hr]; exact hK _ _ h
end Go.Proofs.YtnkaegdnjfpliaaGreatDoor
