/- The book: where its parts lie, heads, Format. Calls in regions that draw their order. -/
import Derived.Test.YtmgajgeoibbmjaaFlush
namespace Go.Proofs.Ytmgajgeoibbmjaa
open Go.RowKit

section
variable {P : Program} {w w' : World} {a : Act} {o : Oper} {v : Value} {ops : Array Oper} {K : Exit → Act → World → Prop} {S : World → Prop} {fuel : Nat} {listed : Array Bool}
theorem exec_call {f : FuncId} {fn : Func} {xs : List Operand} {ts : Array TypeId} (vs : List Value) (ho : o.op = .call { callee := .value (.func f), args := xs.toArray, argTypes := ts }) (hx : xs.map a.eval = vs)
    (hfn : P.funcs[f]? = some fn) (hb : fn.body.isSome = true) (hn : (fn.name == "runtime.NumGoroutine") = false) : (execOp a.eval o).run P w = .ok (.enter f vs.toArray) w := by
  have hy : a.eval (.func f) = .func (.func f) #[] #[] := rfl
  have hc := enters_plain hfn hb hn vs.toArray w
  unfold execOp
  simp only [ho, resolve, hy, List.map_toArray, hx, Deferred.ofValue, Sem.run_bind, Sem.run_pure, Result.andThen_ok, invoke, Array.empty_append, Array.append_empty]
  exact hc
/-- The one operation that may come up is a call. -/
theorem onlyCall (i d : Nat) {oi : Oper} {f : FuncId} {vs : Array Value} (hi : ops[i]? = some oi) (hdst : oi.dst = some d) (hr : Region.ready .any ops listed = [i]) (hw : Region.wanted oi (yielded ops a.tmps) = true)
    (hx : (execOp a.eval oi).run P w = .ok (.enter f vs) w)
    (h : Calls P f vs w fun e w' => ∃ v, e = .returned v ∧ (lastly ops i = true ∨ S w') ∧ wpE P ops K S fuel (listed.setIfInBounds i true) (a.put (some d) v) w') : wpE P ops K S (fuel + 1) listed a w :=
  only i hi hr hw (by unfold Oper.wp; rw [hx, Oper.upon_enter]; refine h.mono ?_; rintro e w' ⟨v, rfl, hS, hk⟩; exact ⟨hS, hdst ▸ hk⟩)
/-- The last operation is a call that panics. -/
theorem lastPanic (i : Nat) {oi : Oper} {f : FuncId} {vs : Array Value} (hi : ops[i]? = some oi) (hr : Region.ready .any ops listed = [i]) (hw : Region.wanted oi (yielded ops a.tmps) = true) (hl : lastly ops i = true)
    (hx : (execOp a.eval oi).run P w = .ok (.enter f vs) w)
    (h : Calls P f vs w fun e w' => ∃ c, e = .panicked c ∧ K (.panic c) a w') : wpE P ops K S (fuel + 1) listed a w :=
  only i hi hr hw (by
    have : outs ops K i = K := if_pos hl
    rw [this]
    unfold Oper.wp; rw [hx, Oper.upon_enter]; refine h.mono ?_; rintro e w' ⟨c, rfl, hk⟩; exact hk)
/-- One of two operations comes up. -/
theorem either (i j : Nat) (hr : Region.ready .any ops listed = [i, j])
    (h1 : wpOp P ops (outs ops K i) i (fun a' w' => (lastly ops i = true ∨ S w') ∧ wpE P ops K S fuel (listed.setIfInBounds i true) a' w') a w)
    (h2 : wpOp P ops (outs ops K j) j (fun a' w' => (lastly ops j = true ∨ S w') ∧ wpE P ops K S fuel (listed.setIfInBounds j true) a' w') a w) : wpE P ops K S (fuel + 1) listed a w := by
  intro _
  refine ⟨fun h => (by rw [h] at hr; cases hr), fun k hk => ?_⟩
  rw [hr] at hk
  simp only [List.mem_cons, List.not_mem_nil, or_false] at hk
  rcases hk with rfl | rfl
  · exact h1
  · exact h2
theorem opRun {N : Act → World → Prop} (i d : Nat) {oi : Oper} {v : Value} {w' : World} (hi : ops[i]? = some oi) (hdst : oi.dst = some d) (hw : Region.wanted oi (yielded ops a.tmps) = true)
    (hx : (execOp a.eval oi).run P w = .ok (.value v) w') (h : N (a.put (some d) v) w') : wpOp P ops (outs ops K i) i N a w := by
  unfold wpOp
  simp only [hi, hw, if_true]
  exact .inl (by unfold Oper.wp; rw [hx, Oper.upon_value, hdst]; exact h)
theorem opCall {N : Act → World → Prop} (i d : Nat) {oi : Oper} {f : FuncId} {vs : Array Value} (hi : ops[i]? = some oi) (hdst : oi.dst = some d) (hw : Region.wanted oi (yielded ops a.tmps) = true)
    (hx : (execOp a.eval oi).run P w = .ok (.enter f vs) w) (h : Calls P f vs w fun e w' => ∃ v, e = .returned v ∧ N (a.put (some d) v) w') : wpOp P ops (outs ops K i) i N a w := by
  unfold wpOp
  simp only [hi, hw, if_true]
  refine .inl ?_
  unfold Oper.wp; rw [hx, Oper.upon_enter]; refine h.mono ?_; rintro e w' ⟨v, rfl, hk⟩; exact hdst ▸ hk
end

/-! ### bytes as strings -/
def strB (l : List UInt8) : ByteArray := ⟨l.toArray⟩
theorem strB_inj {l m : List UInt8} : strB l = strB m ↔ l = m := by
  constructor
  · intro h; have := congrArg (fun b => b.data.toList) h; simpa [strB] using this
  · rintro rfl; rfl
theorem strB_toList (l : List UInt8) : (strB l).toList = l := by rw [ByteArray.toList_eq]; rfl
theorem foldl_bytes (l : List UInt8) : ∀ s : ByteArray, (l.map fun b => ((b.toNat : Int))).foldl (fun r n => r.push (UInt8.ofNat n.toNat)) s = ⟨s.data ++ l.toArray⟩ := by
  induction l with
  | nil => intro s; simp
  | cons b l ih =>
    intro s
    simp only [List.map_cons, List.foldl_cons]
    rw [ih]
    congr 1
    simp [ByteArray.push]
theorem run_str {w : World} {a : Option Addr} {n c : Nat} {l : List UInt8} (h : RdB w (.slice a n c) l) : (convert 35 9 (.slice a n c)).run Try.prog w = .ok (.string (strB l)) w := by
  rw [run_convert_bytes_string w _ _ 5 _ _ _ Try.underlying35 Try.underlying5 Try.underlying9]
  obtain ⟨a', cap, heq, h1, h2⟩ := h
  cases heq
  cases a with
  | none =>
    have hn : l = [] := List.eq_nil_of_length_eq_zero (by have := h1.2.2 rfl; omega)
    subst hn
    rfl
  | some ad =>
    have hcell := RdB.at (w := w) (c := c) ⟨_, _, rfl, h1, h2⟩
    have hl := run_loadCells_list (P := Try.prog) w ad ((l.map fun b => ((b.toNat : Int))).map (Value.int .u8)) (fun j v hv => by
      simp only [List.map_map, List.getElem?_map, Option.map_eq_some_iff] at hv
      obtain ⟨x, hx, rfl⟩ := hv
      exact hcell j x hx)
    simp only [List.length_map] at hl
    rw [run_bytesToString w ad l.length c _ hl, foldl_bytes]
    simp [strB]

/-! ### half, place, asked, must -/
def hf (d : DM) : Nat := (d.size - 2) / 2
def plc (d : DM) (n : Nat) : Nat := 2 + n % 2 * hf d
/-! ### Equal -/
/-! ### head -/
def headB (n k : Int) : List UInt8 := padB (leB (u64 n) 8 ++ leB (u64 k) 8)
theorem headB_length (n k : Int) : (headB n k).length = 512 := by rw [headB, padB]; simp only [List.length_append, leB_length, List.length_replicate]
theorem head_key (n k : Int) (w : World) : ∀ w1 v1, OwnB w1 v1 (leB (u64 n) 8) → Below w.heap.size w w1 → (∀ g, v1.ownBlock = some g → w.heap.size ≤ g) → ∀ w2 v2, OwnB w2 v2 (leB (u64 k) 8) → Below w1.heap.size w1 w2 →
      ∃ v' w', (Builtin.append_ #[35, 35] 35 #[v1, v2]).run Try.prog w2 = .ok v' w' ∧ ∃ a n' c, v' = .slice a n' c ∧ RdB w' (.slice a n' c) (leB (u64 n) 8 ++ leB (u64 k) 8) ∧ Below w.heap.size w w' := by
    intro w1 v1 h1 h2 h3 w2 v2 h4 h5
    obtain ⟨a2, n2, e2⟩ := h4.shape
    subst e2
    have h1' := h1.below h5
    obtain ⟨v', w', q1, q2, q3, q4, q5⟩ := append_rd h1' a2 _ n2 (leB (u64 k) 8) h4.rd (by rw [leB_length, leB_length]; omega) 35
    obtain ⟨a', c', e'⟩ := q2.shape
    refine ⟨v', w', q1, a', _, c', e', e' ▸ q2.rd, q3.below (h2.trans (h5.mono h2.size)) (fun b hb e => by have := h3 _ e; omega) (by have := h2.size; have := h5.size; omega)⟩
end Go.Proofs.Ytmgajgeoibbmjaa
