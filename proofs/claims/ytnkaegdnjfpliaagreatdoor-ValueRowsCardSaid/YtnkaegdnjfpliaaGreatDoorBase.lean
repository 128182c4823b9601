/- What all texts of this layer lean on: operations out of their runs, calls in regions, rows of cells, append. Nothing of the program is named here. -/
import Derived.Test.YtnkaegdnjfpliaaGreatDoorRound
import Derived.Lib.Hide
import Derived.Laws.IdiomStrings
namespace Go.Proofs.YtnkaegdnjfpliaaGreatDoor
set_option linter.unusedSimpArgs false
set_option linter.unusedVariables false
open Go.RowKit

theorem heap_get_alloc (w : World) (o : Obj) (k : Nat) : (w.alloc o).heap[k]? = if k = w.heap.size then some o else w.heap[k]? := by
  show (w.heap.push o)[k]? = _
  rw [Array.getElem?_push]
theorem ownsRow_heap {w w' : World} {base : Nat} {e : TypeId} {size : Nat} {v : Value} {n : Nat} {xs : List Value} (h : w.ownsRow base e size v n xs) (hb : ∀ g, v.ownBlock = some g → w'.heap[g]? = w.heap[g]?) :
    w'.ownsRow base e size v n xs := by
  refine ⟨h.1, ?_⟩
  rcases h.2 with hn | ⟨g, cap, cur, rfl, h1, h2, rest⟩
  · exact .inl hn
  · exact .inr ⟨g, cap, cur, rfl, h1, (hb g rfl).trans h2, rest⟩
theorem cellOf {w : World} {b o : Nat} {cs : Array Value} {t : TypeId} {fr : Nat × Nat} {v : Value} (h : w.heap[b]? = some (.cells cs t fr)) (hv : cs[o]? = some v) : w.cell? ⟨b, o, none⟩ = some v := by
  rw [cell_of_row w b o cs t fr h]; exact hv
theorem freeOf {w : World} {b o : Nat} {cs : Array Value} {t : TypeId} (h : w.heap[b]? = some (.cells cs t (0, 0))) : w.frozen? ⟨b, o, none⟩ = false := frozen_of_row w b o cs t h
section
variable {P : Program} {w w' : World} {a : Act} {o : Oper} {v : Value} {ops : Array Oper} {K : Exit → Act → World → Prop} {S : World → Prop} {fuel : Nat} {listed : Array Bool}
theorem exec_call {f : FuncId} {fn : Func} {xs : List Operand} {ts : Array TypeId} (vs : List Value) (ho : o.op = .call { callee := .value (.func f), args := xs.toArray, argTypes := ts }) (hx : xs.map a.eval = vs)
    (hfn : P.funcs[f]? = some fn) (hb : fn.body.isSome = true) (hn : (fn.name == "runtime.NumGoroutine") = false) : (execOp a.eval o).run P w = .ok (.enter f vs.toArray) w := by
  have hy : a.eval (.func f) = .func (.func f) #[] #[] := rfl
  have hc := enters_plain hfn hb hn vs.toArray w
  unfold execOp
  simp only [ho, resolve, hy, List.map_toArray, hx, Deferred.ofValue, Sem.run_bind, Sem.run_pure, Result.andThen_ok, invoke, Array.empty_append, Array.append_empty]
  exact hc
/-- The one operation that may come up is a call. -/
theorem onlyCall (i d : Nat) {oi : Oper} {f : FuncId} {vs : Array Value} (hi : ops[i]? = some oi) (hdst : oi.dst = some d) (hr : Region.ready .any ops listed = [i]) (hw : Region.wanted oi (yielded ops a.tmps) = true)
    (hx : (execOp a.eval oi).run P w = .ok (.enter f vs) w)
    (h : Calls P f vs w fun e w' => ∃ v, e = .returned v ∧ (lastly ops i = true ∨ S w') ∧ wpE P ops K S fuel (listed.setIfInBounds i true) (a.put (some d) v) w') : wpE P ops K S (fuel + 1) listed a w :=
  only i hi hr hw (by unfold Oper.wp; rw [hx, Oper.upon_enter]; refine h.mono ?_; rintro e w' ⟨v, rfl, hS, hk⟩; exact ⟨hS, hdst ▸ hk⟩)
/-- The last operation is a call that panics. -/
theorem lastPanic (i : Nat) {oi : Oper} {f : FuncId} {vs : Array Value} (hi : ops[i]? = some oi) (hr : Region.ready .any ops listed = [i]) (hw : Region.wanted oi (yielded ops a.tmps) = true) (hl : lastly ops i = true)
    (hx : (execOp a.eval oi).run P w = .ok (.enter f vs) w)
    (h : Calls P f vs w fun e w' => ∃ c, e = .panicked c ∧ K (.panic c) a w') : wpE P ops K S (fuel + 1) listed a w :=
  only i hi hr hw (by
    have : outs ops K i = K := if_pos hl
    rw [this]
    unfold Oper.wp; rw [hx, Oper.upon_enter]; refine h.mono ?_; rintro e w' ⟨c, rfl, hk⟩; exact hk)
/-- One of two operations comes up. -/
theorem either (i j : Nat) (hr : Region.ready .any ops listed = [i, j])
    (h1 : wpOp P ops (outs ops K i) i (fun a' w' => (lastly ops i = true ∨ S w') ∧ wpE P ops K S fuel (listed.setIfInBounds i true) a' w') a w)
    (h2 : wpOp P ops (outs ops K j) j (fun a' w' => (lastly ops j = true ∨ S w') ∧ wpE P ops K S fuel (listed.setIfInBounds j true) a' w') a w) : wpE P ops K S (fuel + 1) listed a w := by
  intro _
  refine ⟨fun h => (by rw [h] at hr; cases hr), fun k hk => ?_⟩
  rw [hr] at hk
  simp only [List.mem_cons, List.not_mem_nil, or_false] at hk
  rcases hk with rfl | rfl
  · exact h1
  · exact h2
theorem opRun {N : Act → World → Prop} (i d : Nat) {oi : Oper} {v : Value} {w' : World} (hi : ops[i]? = some oi) (hdst : oi.dst = some d) (hw : Region.wanted oi (yielded ops a.tmps) = true)
    (hx : (execOp a.eval oi).run P w = .ok (.value v) w') (h : N (a.put (some d) v) w') : wpOp P ops (outs ops K i) i N a w := by
  unfold wpOp
  simp only [hi, hw, if_true]
  exact .inl (by unfold Oper.wp; rw [hx, Oper.upon_value, hdst]; exact h)
theorem opCall {N : Act → World → Prop} (i d : Nat) {oi : Oper} {f : FuncId} {vs : Array Value} (hi : ops[i]? = some oi) (hdst : oi.dst = some d) (hw : Region.wanted oi (yielded ops a.tmps) = true)
    (hx : (execOp a.eval oi).run P w = .ok (.enter f vs) w) (h : Calls P f vs w fun e w' => ∃ v, e = .returned v ∧ N (a.put (some d) v) w') : wpOp P ops (outs ops K i) i N a w := by
  unfold wpOp
  simp only [hi, hw, if_true]
  refine .inl ?_
  unfold Oper.wp; rw [hx, Oper.upon_enter]; refine h.mono ?_; rintro e w' ⟨v, rfl, hk⟩; exact hdst ▸ hk
end

section
variable {P : Program} {a : Act} {w w' : World} {o : Oper} {v : Value}
theorem exec_slice {t : TypeId} {x : Operand} {lo hi mx : Option Operand} {vx : Value} {lo' hi' mx' : Option Value} (ho : o.op = .slice t x lo hi mx) (hx : a.eval x = vx) (hlo : lo.map a.eval = lo') (hhi : hi.map a.eval = hi') (hmx : mx.map a.eval = mx')
    (hr : (Instr.sliceAt t vx lo' hi' mx').run P w = .ok v w') : (execOp a.eval o).run P w = .ok (.value v) w' := by
  unfold execOp; rw [ho]; simp only [hx, hlo, hhi, hmx, Sem.run_bind, hr, Result.andThen_ok, Sem.run_pure]
theorem exec_move {x : Operand} (ho : o.op = .move x) (hx : a.eval x = v) : (execOp a.eval o).run P w = .ok (.value v) w := by
  unfold execOp; rw [ho]; simp only [hx, Sem.run_pure]
end

section
variable {P : Program} {ops : Array Oper} {a : Act} {w : World} {S : World → Prop} {fuel : Nat} {listed : Array Bool} {K : Exit → Act → World → Prop} {o : Oper}
theorem onlyNot (i d : Nat) {oi : Oper} (hi : ops[i]? = some oi) (hdst : oi.dst = some d) (hr : Region.ready .any ops listed = [i]) (hw : Region.wanted oi (yielded ops a.tmps) = false)
    (h : wpE P ops K S fuel (listed.setIfInBounds i true) (a.put (some d) undef) w) (hS : lastly ops i = true ∨ S w) : wpE P ops K S (fuel + 1) listed a w := by
  intro _
  refine ⟨fun h => (by rw [h] at hr; cases hr), fun j hj => ?_⟩
  rw [hr] at hj
  obtain rfl : j = i := by simpa using hj
  unfold wpOp
  simp only [hi, hw]
  exact ⟨hS, hdst ▸ h⟩
theorem exec_bini {op : BinOp} {t t' : TypeId} {x y : Operand} {n m : Int} {v : Value} (ho : o.op = .binOp op t x y t') (hx : a.eval x = .int .i64 n) (hy : a.eval y = .int .i64 m)
    (hr : (binOp op t (.int .i64 n) (.int .i64 m)).run P w = .ok v w) : (execOp a.eval o).run P w = .ok (.value v) w := by
  unfold execOp; rw [ho]; simp only [hx, hy]
  have e : eqGuard op t x y (.int .i64 n) (.int .i64 m) = pure () := by unfold eqGuard; cases op <;> rfl
  simp only [e, Sem.run_bind, Sem.run_pure, Result.andThen_ok, hr]
theorem exec_bins {op : BinOp} {t t' : TypeId} {x y : Operand} {n m : ByteArray} {v : Value} (ho : o.op = .binOp op t x y t') (hx : a.eval x = .string n) (hy : a.eval y = .string m)
    (hr : (binOp op t (.string n) (.string m)).run P w = .ok v w) : (execOp a.eval o).run P w = .ok (.value v) w := by
  unfold execOp; rw [ho]; simp only [hx, hy]
  have e : eqGuard op t x y (.string n) (.string m) = pure () := by unfold eqGuard; cases op <;> rfl
  simp only [e, Sem.run_bind, Sem.run_pure, Result.andThen_ok, hr]
theorem exec_convert {s t : TypeId} {x : Operand} {vx v : Value} {w' : World} (ho : o.op = .convert s t x) (hx : a.eval x = vx) (hr : (convert s t vx).run P w = .ok v w') : (execOp a.eval o).run P w = .ok (.value v) w' := by
  unfold execOp; rw [ho]; simp only [hx, Sem.run_bind, hr, Result.andThen_ok, Sem.run_pure]
end

section
variable {P : Program} {w w' : World} {a : Act} {o : Oper} {v : Value}
theorem exec_makeSlice {t : TypeId} {x y : Operand} {vx vy : Value} (ho : o.op = .makeSlice t x y) (hx : a.eval x = vx) (hy : a.eval y = vy) (hr : (Instr.makeSlice t vx vy).run P w = .ok v w') : (execOp a.eval o).run P w = .ok (.value v) w' := by
  unfold execOp; rw [ho]; simp only [hx, hy, Sem.run_bind, hr, Result.andThen_ok, Sem.run_pure]
theorem exec_assign {x : Operand} (ho : o.op = .assign x) (hx : a.eval x = v) : (execOp a.eval o).run P w = .ok (.value v) w := by
  unfold execOp; rw [ho]; simp only [hx, Sem.run_pure]
end

/-- A call of a function value that captures. -/
theorem exec_callv {P : Program} {w : World} {a : Act} {o : Oper} {f : Operand} {g : FuncId} {fn : Func} {lb : Array Value} {ts : Array TypeId} (ho : o.op = .call { callee := .value f, args := #[], argTypes := ts }) (hf : a.eval f = .func (.func g) #[] lb)
    (hfn : P.funcs[g]? = some fn) (hb : fn.body.isSome = true) (hn : (fn.name == "runtime.NumGoroutine") = false) : (execOp a.eval o).run P w = .ok (.enter g lb) w := by
  have hc := enters_plain hfn hb hn lb w
  unfold execOp
  simp only [ho, resolve, hf, List.map_toArray, List.map_nil, Deferred.ofValue, Sem.run_bind, Sem.run_pure, Result.andThen_ok, invoke, Array.empty_append]
  exact hc
theorem exec_binbb {P : Program} {a : Act} {w : World} {o : Oper} {op : BinOp} {t t' : TypeId} {x y : Operand} {n m : Bool} {v : Value} (ho : o.op = .binOp op t x y t') (hx : a.eval x = .bool n) (hy : a.eval y = .bool m)
    (hr : (binOp op t (.bool n) (.bool m)).run P w = .ok v w) : (execOp a.eval o).run P w = .ok (.value v) w := by
  unfold execOp; rw [ho]; simp only [hx, hy]
  have e : eqGuard op t x y (.bool n) (.bool m) = pure () := by unfold eqGuard; cases op <;> rfl
  simp only [e, Sem.run_bind, Sem.run_pure, Result.andThen_ok, hr]
theorem exec_binp {P : Program} {a : Act} {w : World} {o : Oper} {op : BinOp} {t t' : TypeId} {x y : Operand} {p q : Option Addr} {v : Value} (ho : o.op = .binOp op t x y t') (hx : a.eval x = .pointer p) (hy : a.eval y = .pointer q)
    (hr : (binOp op t (.pointer p) (.pointer q)).run P w = .ok v w) : (execOp a.eval o).run P w = .ok (.value v) w := by
  unfold execOp; rw [ho]; simp only [hx, hy]
  have e : eqGuard op t x y (.pointer p) (.pointer q) = pure () := by unfold eqGuard; cases op <;> rfl
  simp only [e, Sem.run_bind, Sem.run_pure, Result.andThen_ok, hr]
theorem exec_unot {P : Program} {a : Act} {w : World} {o : Oper} {t : TypeId} {x : Operand} {b : Bool} (ho : o.op = .unOp .not t x) (hx : a.eval x = .bool b) : (execOp a.eval o).run P w = .ok (.value (.bool (!b))) w := by
  unfold execOp; rw [ho]; simp [hx, Op.unary]
theorem exec_indexAddr {P : Program} {a : Act} {w w' : World} {o : Oper} {t : TypeId} {x y : Operand} {vx vy v : Value} (ho : o.op = .indexAddr t x y) (hx : a.eval x = vx) (hy : a.eval y = vy) (hr : (Instr.indexAt t vx vy).run P w = .ok v w') :
    (execOp a.eval o).run P w = .ok (.value v) w' := by
  unfold execOp; rw [ho]; simp only [hx, hy, Sem.run_bind, hr, Result.andThen_ok, Sem.run_pure]
theorem exec_binv {P : Program} {a : Act} {w w' : World} {o : Oper} {op : BinOp} {t t' : TypeId} {x y : Operand} {c d : Array Value} {v : Value} (ho : o.op = .binOp op t x y t') (hx : a.eval x = .agg c) (hy : a.eval y = .agg d) (hm : P.eqGuardType P.depth t = false)
    (hr : (binOp op t (.agg c) (.agg d)).run P w = .ok v w') : (execOp a.eval o).run P w = .ok (.value v) w' := by
  unfold execOp; rw [ho]; simp only [hx, hy, Sem.run_bind, run_eqGuard_agg w op t x y c d hm, hr, Result.andThen_ok, Sem.run_pure]
/-! ### bytes as strings -/
def strB (l : List UInt8) : ByteArray := ⟨l.toArray⟩
theorem strB_inj {l m : List UInt8} : strB l = strB m ↔ l = m := by
  constructor
  · intro h; have := congrArg (fun b => b.data.toList) h; simpa [strB] using this
  · rintro rfl; rfl
theorem strB_toList (l : List UInt8) : (strB l).toList = l := by rw [ByteArray.toList_eq]; rfl
theorem foldl_bytes (l : List UInt8) : ∀ s : ByteArray, (l.map fun b => ((b.toNat : Int))).foldl (fun r n => r.push (UInt8.ofNat n.toNat)) s = ⟨s.data ++ l.toArray⟩ := by
  induction l with
  | nil => intro s; simp
  | cons b l ih =>
    intro s
    simp only [List.map_cons, List.foldl_cons]
    rw [ih]
    congr 1
    simp [ByteArray.push]
theorem strB_extract (l : List UInt8) (i j : Nat) : (strB l).extract i j = strB ((l.drop i).take (j - i)) := by
  apply ByteArray.ext
  simp [strB, ByteArray.data_extract]
theorem strB_append (a b : List UInt8) : strB a ++ strB b = strB (a ++ b) := by
  apply ByteArray.ext; simp [strB, ByteArray.data_append]
theorem strB_size (a : List UInt8) : (strB a).size = a.length := rfl
theorem strB_get (l : List UInt8) (j : Nat) (h : j < (strB l).size) : (strB l)[j] = l[j]'(by rw [strB_size] at h; exact h) := rfl

/-! ### append -/
section
variable {P : Program} {w : World}

/-- append of m elements that lie at a. -/
theorem append_law (t ty e : TypeId) (i : TypeInfo) (z : Value) (size bytes : Nat) (ht : P.underlying t = some (.slice e)) (hi : P.info? e = some i) (hz : i.zero = some z)
    (hsize : i.size = size) (hby : i.bytes = bytes) (hzs : z.cells.size = size)
    (v : Value) (n : Nat) (xs : List Value) (hown : w.ownsRow 0 e size v n xs)
    (a : Addr) (m c : Nat) (news : List Value) (hl : news.length = m * size) (hnews : ∀ j u, news[j]? = some u → w.cell? (a.add j) = some u) (h1 : ∀ u ∈ news, u.oneCell' = true)
    (h63 : n + m ≤ maxLen) (hbytes : (n + m) * bytes ≤ 140737488355328) :
    ∃ v' w', (Builtin.append_ #[t, t] ty #[v, .slice (some a) m c]).run P w = .ok v' w' ∧ w'.ownsRow 0 e size v' (n + m) (xs ++ news) ∧ Touch (fun b => v.ownBlock = some b) w w' ∧
      (v'.ownBlock = v.ownBlock ∨ v'.ownBlock = some w.heap.size) ∧ w.heap.size ≤ w'.heap.size := by
  subst hsize
  subst hby
  have hsmall : n + m ≤ 9223372036854775807 := by simp only [maxLen] at h63; omega
  have hlen : (xs ++ news).length = (n + m) * i.size := by rw [List.length_append, hown.1, hl, Nat.add_mul]
  have grown : ∀ (old : Nat), old < n + m → ∀ (S : Nat → Prop),
      (w.drew.alloc (.cells (xs.toArray ++ news.toArray ++ Builtin.zeroCells z.cells (grownCap w (n + m) old e - (n + m))) e)).ownsRow 0 e i.size
        (.slice (some ⟨w.heap.size, 0, none⟩) (n + m) (grownCap w (n + m) old e)) (n + m) (xs ++ news) ∧
      Touch S w (w.drew.alloc (.cells (xs.toArray ++ news.toArray ++ Builtin.zeroCells z.cells (grownCap w (n + m) old e - (n + m))) e)) := by
    intro old ho S
    have hge := grownCap_ge w (n + m) old e
    have hcm : grownCap w (n + m) old e ≤ maxLen := grownCap_le_maxLen w (n + m) old e h63
    refine ⟨⟨hlen, .inr ⟨w.heap.size, _, _, rfl, Nat.zero_le _, heap_alloc_new w.drew _, hge, hcm, ?_, ?_⟩⟩, (Touch.refl S w).drew.alloc _⟩
    · simp only [Array.size_append, List.size_toArray, size_zeroCells, hzs, hown.1, hl, ← Nat.add_mul]
      congr 1
      omega
    · simp only [Array.toList_append, List.append_assoc]
      rw [← List.append_assoc, ← hlen]
      exact List.take_left
  rcases hown.2 with ⟨rfl, rfl⟩ | ⟨g, cap, cur, rfl, hbg, hg, hnc, hcm, hcs, htake⟩
  · have hx : xs = [] := List.eq_nil_of_length_eq_zero (by simpa using hown.1)
    subst hx
    by_cases hm : m = 0
    · subst hm
      have hn : news = [] := List.eq_nil_of_length_eq_zero (by simpa using hl)
      subst hn
      refine ⟨.slice none 0 0, w, ?_, World.ownsRow_nil w 0 e i.size, Touch.refl _ _, .inl rfl, Nat.le_refl _⟩
      simp [Builtin.append_, run_underlying ht, sizeOf, typeInfo, hi, Builtin.lenOf, Builtin.firstCells, loadCells, loadCellsFrom]
    · have hr := run_append_nil (P := P) w t ty e i z ht hi hz a m c news hl hnews (by omega) (by omega) (by have hb := hbytes; simp only [Nat.zero_add] at hb; omega)
      have hgr := grown 0 (by omega) (fun b => Value.ownBlock (.slice none 0 0) = some b)
      simp only [Nat.zero_add, List.nil_append, Array.empty_append] at hgr ⊢
      exact ⟨_, _, hr, hgr.1, hgr.2, .inr rfl, hgr.2.size⟩
  · by_cases hroom : n + m ≤ cap
    · have hfit : n * i.size + news.length ≤ cur.size := by rw [hl, hcs, ← Nat.add_mul]; exact Nat.mul_le_mul_right _ hroom
      have hr := run_append_room (P := P) w t ty e i ht hi g n cap cur hg a m c news hl hnews h1 hroom hfit
      refine ⟨_, _, hr, ⟨hlen, .inr ⟨g, cap, _, rfl, hbg, setRow_heap w g cur _ e _ hg, hroom, hcm, ?_, ?_⟩⟩, ⟨rfl, rfl, rfl, by simp, fun k _ hk => setRow_other w g k _ (fun e => hk (by simp [Value.ownBlock, e]))⟩, .inl rfl, by simp⟩
      · simp only [List.size_toArray, List.length_append, List.length_take, List.length_drop, Array.length_toList]
        omega
      · rw [htake, ← hlen]
        exact List.take_left
    · have holds : ∀ j u, xs[j]? = some u → w.cell? ((⟨g, 0, none⟩ : Addr).add j) = some u := hown.cells (g := g) rfl
      have hr := run_append_grow (P := P) w t ty e i z ht hi hz ⟨g, 0, none⟩ n cap xs hown.1 holds a m c news hl hnews (by omega) (by omega) (growslice_fits (by omega) hbytes)
      have hgr := grown cap (by omega) (fun b => Value.ownBlock (.slice (some ⟨g, 0, none⟩) n cap) = some b)
      exact ⟨_, _, hr, hgr.1, hgr.2, .inr rfl, hgr.2.size⟩

/-- append of nothing that is nil. -/
theorem append_law_nil (t ty e : TypeId) (i : TypeInfo) (size : Nat) (ht : P.underlying t = some (.slice e)) (hi : P.info? e = some i)
    (hsize : i.size = size) (v : Value) (n : Nat) (xs : List Value) (hown : w.ownsRow 0 e size v n xs) :
    (Builtin.append_ #[t, t] ty #[v, .slice none 0 0]).run P w = .ok v w := by
  subst hsize
  rcases hown.2 with ⟨rfl, rfl⟩ | ⟨g, cap, cur, rfl, hbg, hg, hnc, hcm, hcs, htake⟩
  · simp [Builtin.append_, run_underlying ht, sizeOf, typeInfo, hi, Builtin.lenOf, Builtin.firstCells, loadCells, loadCellsFrom]
  · simp [Builtin.append_, run_underlying ht, sizeOf, typeInfo, hi, Builtin.lenOf, hnc, Builtin.firstCells, storeCells]

/-- A row of cells in a block of its own. -/
theorem ownsRow_of_heap {b : Nat} {cs : Array Value} {e : TypeId} {size n cap : Nat} {xs : List Value} (h : w.heap[b]? = some (.cells cs e (0, 0))) (hn : n ≤ cap) (hc : cap ≤ maxLen) (hs : cs.size = cap * size) (hx : cs.toList.take (n * size) = xs) (hl : xs.length = n * size) :
    w.ownsRow 0 e size (.slice (some ⟨b, 0, none⟩) n cap) n xs := ⟨hl, .inr ⟨b, cap, cs, rfl, Nat.zero_le _, h, hn, hc, hs, hx⟩⟩

theorem addr_add (b o j : Nat) : (⟨b, o, none⟩ : Addr).add j = ⟨b, o + j, none⟩ := by unfold Addr.add; split <;> simp_all

/-- What an owned row reads as. -/
theorem ownsRow_cell {e : TypeId} {size n cap : Nat} {a : Addr} {xs : List Value} (h : w.ownsRow 0 e size (.slice (some a) n cap) n xs) (j : Nat) (u : Value) (hu : xs[j]? = some u) : w.cell? (a.add j) = some u := by
  have := h.cells (g := a.block) rfl j u hu
  rcases h.2 with ⟨h', _⟩ | ⟨g, cap', cur, h', _⟩
  · cases h'
  · cases h'; exact this
end

theorem foldl_set_list (l : List Value) : ∀ (k : Nat) (cs : Array Value), k + l.length ≤ cs.size →
    ((l.zipIdx k).foldl (fun cs (p : Value × Nat) => cs.setIfInBounds (0 + p.2) p.1) cs).size = cs.size ∧
    ∀ i, ((l.zipIdx k).foldl (fun cs (p : Value × Nat) => cs.setIfInBounds (0 + p.2) p.1) cs)[i]? = if k ≤ i ∧ i < k + l.length then l[i - k]? else cs[i]? := by
  induction l with
  | nil => intro k cs _; exact ⟨rfl, fun i => by rw [if_neg (by simp only [List.length_nil]; omega)]; rfl⟩
  | cons v l ih =>
    intro k cs h
    simp only [List.length_cons] at h
    obtain ⟨h1, h2⟩ := ih (k + 1) (cs.setIfInBounds (0 + k) v) (by simp; omega)
    simp only [List.zipIdx_cons, List.foldl_cons]
    refine ⟨by rw [h1]; simp, fun i => ?_⟩
    rw [h2]
    by_cases hi : i = k
    · subst hi
      rw [if_neg (by omega), if_pos (by simp), Nat.sub_self, Array.getElem?_setIfInBounds]
      simp; omega
    · by_cases h3 : k + 1 ≤ i ∧ i < k + 1 + l.length
      · rw [if_pos h3, if_pos (by simp only [List.length_cons]; omega)]
        have : i - k = (i - (k + 1)) + 1 := by omega
        rw [this, List.getElem?_cons_succ]
      · rw [if_neg h3, if_neg (by simp only [List.length_cons]; omega), Array.getElem?_setIfInBounds, if_neg (by omega)]
theorem foldl_set (vs cs : Array Value) (h : cs.size = vs.size) : vs.zipIdx.foldl (fun cs (p : Value × Nat) => cs.setIfInBounds (0 + p.2) p.1) cs = vs := by
  have h0 := foldl_set_list vs.toList 0 cs (by simp [h])
  have e : vs.zipIdx.foldl (fun cs (p : Value × Nat) => cs.setIfInBounds (0 + p.2) p.1) cs = (vs.toList.zipIdx 0).foldl (fun cs (p : Value × Nat) => cs.setIfInBounds (0 + p.2) p.1) cs := by
    rw [← Array.foldl_toList, Array.toList_zipIdx]
  rw [e]
  apply Array.ext_getElem?
  intro i
  rw [h0.2 i]
  by_cases hi : i < vs.size
  · rw [if_pos (by simp; omega)]; simp
  · rw [if_neg (by simp; omega), Array.getElem?_eq_none (by omega), Array.getElem?_eq_none (by omega)]
/-- A slice of one element, built. -/
theorem run_buildSlice_one {P : Program} {w : World} {t e : TypeId} {size : Nat} {z v : Value} (ht : P.underlying t = some (.slice e)) (hs : ∀ w, (sizeOf e).run P w = .ok size w) (hz : ∀ w, (zeroValue e).run P w = .ok z w) (hv : v.cells.size = size) (h0 : 0 < size) (h1 : size ≤ 2 ^ 24) :
    (Instr.buildSlice t 1 #[(0, v)]).run P w = .ok (.slice (some ⟨w.heap.size, 0, none⟩) 1 1) (w.alloc (.cells v.cells e)) := by
  have hn : ¬ (1 * size > 2 ^ 24) := by omega
  have hn0 : ¬ (1 * size = 0) := by omega
  have hf : Instr.fill (fun i => some (i * size, size)) ((Array.range (1 * size)).map (z.cells[· % z.cells.size]!)) [(0, v)] = some v.cells := by
    simp only [Instr.fill]
    rw [if_neg (by simp [hv])]
    congr 1
    have := foldl_set v.cells ((Array.range (1 * size)).map (z.cells[· % z.cells.size]!)) (by simp [hv])
    simpa using this
  unfold Instr.buildSlice
  simp only [Sem.run_bind, run_underlying ht, Result.andThen_ok, hs, hn, if_false, hn0, hz, Sem.run_pure, hf]
  rfl

/-! ### rows -/
/-- A row of cells that has a block of its own: its first ones are xs. -/
def RowAt (w : World) (b c : Nat) (e : TypeId) (xs : List Value) : Prop := ∃ cur : Array Value, w.heap[b]? = some (.cells cur e (0, 0)) ∧ cur.size = c ∧ xs.length ≤ c ∧ cur.toList.take xs.length = xs
section
variable {w w' : World} {b c : Nat} {e : TypeId} {xs : List Value}
theorem RowAt.cell (h : RowAt w b c e xs) {j : Nat} {u : Value} (hu : xs[j]? = some u) : w.cell? ⟨b, j, none⟩ = some u := by
  obtain ⟨cur, h1, h2, h3, h4⟩ := h
  refine cellOf h1 ?_
  have hj : j < xs.length := (List.getElem?_eq_some_iff.1 hu).1
  rw [← h4, List.getElem?_take_of_lt hj] at hu
  rw [← hu]; simp
theorem RowAt.free (h : RowAt w b c e xs) (j : Nat) : w.frozen? ⟨b, j, none⟩ = false := by obtain ⟨cur, h1, _⟩ := h; exact freeOf h1
theorem RowAt.lt (h : RowAt w b c e xs) : b < w.heap.size := by obtain ⟨cur, h1, _⟩ := h; exact (Array.getElem?_eq_some_iff.1 h1).1
theorem RowAt.of_heap (h : RowAt w b c e xs) (g : w'.heap[b]? = w.heap[b]?) : RowAt w' b c e xs := by obtain ⟨cur, h1, h2⟩ := h; exact ⟨cur, g.trans h1, h2⟩
theorem RowAt.touch {S : Nat → Prop} (h : RowAt w b c e xs) (g : Touch S w w') (hn : ¬ S b) : RowAt w' b c e xs := by obtain ⟨cur, h1, h2⟩ := h; exact ⟨cur, g.heap h1 hn, h2⟩
theorem RowAt.put (h : RowAt w b c e xs) {j : Nat} (hj : j < xs.length) (v : Value) : RowAt (w.setCell ⟨b, j, none⟩ v) b c e (xs.set j v) := by
  obtain ⟨cur, h1, h2, h3, h4⟩ := h
  refine ⟨_, heap_setCell_same w b j cur e v h1, by simp [h2], by simpa using h3, ?_⟩
  rw [List.length_set, Array.toList_setIfInBounds, List.take_set, h4]
theorem RowAt.other (h : RowAt w b c e xs) {g j : Nat} (hg : b ≠ g) (v : Value) : RowAt (w.setCell ⟨g, j, none⟩ v) b c e xs := h.of_heap (Below.heap_setCell w ⟨g, j, none⟩ v b hg)
theorem RowAt.own {n : Nat} (h : w.ownsRow 0 e 1 (.slice (some ⟨b, 0, none⟩) n c) n xs) : RowAt w b c e xs := by
  obtain ⟨hl, h⟩ := h
  rcases h with ⟨h, _⟩ | ⟨g, cap, cur, h, _, hg, hnc, hcm, hcs, htake⟩
  · cases h
  · cases h
    have hl' : xs.length = n := by rw [hl, Nat.mul_one]
    refine ⟨cur, hg, by rw [hcs, Nat.mul_one], by omega, ?_⟩
    rw [Nat.mul_one] at htake
    rw [hl']; exact htake
end

def strV (l : List UInt8) : Value := .string (strB l)
theorem results_cell_one {P : Program} {fn : Func} {p : Tmp} {ty : TypeId} (h : fn.results = #[.cell p ty]) (tmps : Array Value) (w : World) (ad : Addr) (v : Value)
    (hp : tmps.getD p undef = .pointer (some ad)) (hl : (loadVar ty ad).run P w = .ok v w) : (results fn tmps).run P w = .ok v w := by
  have hp' : tmps[p]?.getD undef = .pointer (some ad) := by simpa using hp
  simp [results, h, hp', asAddr, hl]
theorem ret_bool {a b : Bool} (h : a = b) : Ending.returned (.bool a) = .returned (.bool b) := by rw [h]
theorem ret_int {k : IntKind} {a b : Int} (h : a = b) : Ending.returned (.int k a) = .returned (.int k b) := by rw [h]
theorem ret_str {a b : ByteArray} (h : a = b) : Ending.returned (.string a) = .returned (.string b) := by rw [h]
theorem run_eqStr (P : Program) (t : TypeId) (x y : List UInt8) (W : World) : (binOp .eql t (.string (strB x)) (.string (strB y))).run P W = .ok (.bool (decide (x = y))) W := by
  by_cases h : x = y <;> simp [go_sem, strB_toList, h]
theorem run_neStr (P : Program) (t : TypeId) (x y : List UInt8) (W : World) : (binOp .neq t (.string (strB x)) (.string (strB y))).run P W = .ok (.bool (decide (x ≠ y))) W := by
  by_cases h : x = y <;> simp [go_sem, strB_toList, h]
theorem below_new {w : World} (o : Obj) : Below w.heap.size w (w.alloc o) := (Below.refl _ _).alloc (Nat.le_refl _) _
theorem below_drewN (w : World) (q : Nat) : Below w.heap.size w (w.drewN q) := ⟨rfl, rfl, rfl, Nat.le_refl _, fun _ _ => rfl⟩
theorem below_trans {w w1 w2 : World} (h : Below w.heap.size w w1) (g : Below w1.heap.size w1 w2) : Below w.heap.size w w2 := h.trans (g.mono h.size)
end Go.Proofs.YtnkaegdnjfpliaaGreatDoor
