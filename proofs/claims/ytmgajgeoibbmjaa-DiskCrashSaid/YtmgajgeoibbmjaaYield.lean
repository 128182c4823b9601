/- Regions that draw their order and call yield; pieces of slices of bytes. -/
import Derived.Test.YtmgajgeoibbmjaaFormat
import Derived.OrdersIn
namespace Go.Proofs.Ytmgajgeoibbmjaa
open Go.RowKit

section
variable {P : Program} {ops : Array Oper} {a : Act} {w : World} {K : Act → World → Prop} {fuel : Nat} {listed : Array Bool} {o : Oper} {v : Value}
/-- Whatever order is picked from here on, in a function that may call yield. -/
abbrev AI (P : Program) (ops : Array Oper) (K : Act → World → Prop) (fuel : Nat) (listed : Array Bool) (a : Act) (w : World) : Prop := wpAnyIn FW 0 P .any ops (Only K) fuel listed a w
theorem yield_region_draws {id : Nat} {Q : Exit → Act → World → Prop} (hm : P.follows .mixedOrders = true) (h : AI P ops (Q .normal) ops.size (Array.replicate ops.size false) a w.drew) : (Code.region id ops true).wp P Q a w := by
  have h2 := wpIn_region_any (F := FW) (n := 0) (id := id) hm h
  refine (wpIn_wide (n := 0)).1 ?_
  intro b k cs h3 h4 h5
  obtain ⟨e, a', w', hq, harr⟩ := h2 b k cs h3 h4 h5
  exact ⟨e, a', w', by cases e <;> first | exact hq | exact hq.elim, harr⟩
theorem takeI (i d : Nat) {oi : Oper} {v : Value} (hi : ops[i]? = some oi) (hdst : oi.dst = some d) (hs : Region.noSelect ops = true) (hf : Region.free .any ops listed i = true) (hr : (Region.ready .any ops listed).contains i = true)
    (hw : Region.wanted oi (yielded ops a.tmps) = true) (hy : ∀ w, (execOp a.eval oi).run P w = .ok (.value v) w) (hab : ∀ w, oi.about P w a.eval = none)
    (h : AI P ops K fuel (listed.setIfInBounds i true) (a.put (some d) v) w) : AI P ops K (fuel + 1) listed a w :=
  wpAnyIn_take rfl hi hs hf hr (fun _ _ _ h => h) ⟨.inl ⟨hw, hy⟩, hab⟩ (hdst ▸ h)
theorem takeINot (i d : Nat) {oi : Oper} (hi : ops[i]? = some oi) (hdst : oi.dst = some d) (hs : Region.noSelect ops = true) (hf : Region.free .any ops listed i = true) (hr : (Region.ready .any ops listed).contains i = true)
    (hw : Region.wanted oi (yielded ops a.tmps) = false) (hab : ∀ w, oi.about P w a.eval = none)
    (h : AI P ops K fuel (listed.setIfInBounds i true) (a.put (some d) undef) w) : AI P ops K (fuel + 1) listed a w :=
  wpAnyIn_take rfl hi hs hf hr (fun _ _ _ h => h) ⟨.inr ⟨hw, rfl⟩, hab⟩ (hdst ▸ h)
theorem onlyI (i : Nat) {oi : Oper} (hi : ops[i]? = some oi) (hr : Region.ready .any ops listed = [i]) (hw : Region.wanted oi (yielded ops a.tmps) = true)
    (h : oi.uponIn FW 0 P a (AI P ops K fuel (listed.setIfInBounds i true)) (Only K) ((execOp a.eval oi).run P w)) : AI P ops K (fuel + 1) listed a w :=
  wpAnyIn_all hr (by simp) fun j hj => by
    obtain rfl : j = i := by simpa using hj
    unfold wpOpIn
    simp only [hi, hw, if_true]
    exact ⟨fun _ _ => trivial, h⟩
theorem onlyIRun (i d : Nat) {oi : Oper} {v : Value} {w' : World} (hi : ops[i]? = some oi) (hdst : oi.dst = some d) (hr : Region.ready .any ops listed = [i]) (hw : Region.wanted oi (yielded ops a.tmps) = true)
    (hx : (execOp a.eval oi).run P w = .ok (.value v) w') (h : AI P ops K fuel (listed.setIfInBounds i true) (a.put (some d) v) w') : AI P ops K (fuel + 1) listed a w :=
  onlyI i hi hr hw (by rw [hx, Oper.uponIn_value, hdst]; exact h)
theorem onlyICall (i d : Nat) {oi : Oper} {f : FuncId} {vs : Array Value} (hi : ops[i]? = some oi) (hdst : oi.dst = some d) (hr : Region.ready .any ops listed = [i]) (hw : Region.wanted oi (yielded ops a.tmps) = true)
    (hx : (execOp a.eval oi).run P w = .ok (.enter f vs) w)
    (h : Calls P f vs w fun e w' => ∃ v, e = .returned v ∧ AI P ops K fuel (listed.setIfInBounds i true) (a.put (some d) v) w') : AI P ops K (fuel + 1) listed a w :=
  onlyI i hi hr hw (by rw [hx]; refine ⟨fun h => by simp [Fence.wide] at h, (callsIn_wide (n := 0)).2 (h.mono ?_)⟩; rintro e w' ⟨v, rfl, hk⟩; exact hdst ▸ hk)
theorem onlyIYield (i d : Nat) {oi : Oper} {l : Nat} {fn : FuncId} {tmps : Array Value} {assign body : Code} (hi : ops[i]? = some oi) (hdst : oi.dst = some d) (hr : Region.ready .any ops listed = [i]) (hw : Region.wanted oi (yielded ops a.tmps) = true)
    (hx : (execOp a.eval oi).run P w = .ok (.round l fn tmps assign body) w)
    (h : RoundIn FW 0 P l fn tmps assign body w fun e w' => ∃ v, e = .returned v ∧ AI P ops K fuel (listed.setIfInBounds i true) (a.put (some d) v) w') : AI P ops K (fuel + 1) listed a w :=
  onlyI i hi hr hw (by rw [hx]; refine ⟨fun h => by simp [Fence.wide] at h, h.mono ?_⟩; rintro e w' ⟨v, rfl, hk⟩; exact hdst ▸ hk)
theorem onlyINot (i d : Nat) {oi : Oper} (hi : ops[i]? = some oi) (hdst : oi.dst = some d) (hr : Region.ready .any ops listed = [i]) (hw : Region.wanted oi (yielded ops a.tmps) = false)
    (h : AI P ops K fuel (listed.setIfInBounds i true) (a.put (some d) undef) w) : AI P ops K (fuel + 1) listed a w :=
  wpAnyIn_all hr (by simp) fun j hj => by
    obtain rfl : j = i := by simpa using hj
    unfold wpOpIn
    simp only [hi, hw]
    exact ⟨fun _ _ => trivial, hdst ▸ h⟩
theorem doneI (hr : Region.ready .any ops listed = []) (h : K a w) : ∀ fuel, AI P ops K fuel listed a w := wpAnyIn_done hr h
theorem exec_yield {l : Nat} {fn : FuncId} {tmps : Array Value} {assign body : Code} {f : Operand} {xs : List Operand} {ts : Array TypeId} (vs : List Value) (ho : o.op = .call { callee := .value f, args := xs.toArray, argTypes := ts })
    (hf : a.eval f = .func (.yield l) #[] #[]) (hx : xs.map a.eval = vs) (hy : (Instr.yield l vs.toArray).run P w = .ok (.round l fn tmps assign body) w) : (execOp a.eval o).run P w = .ok (.round l fn tmps assign body) w := by
  unfold execOp
  simp only [ho, resolve, hf, List.map_toArray, hx, Deferred.ofValue, Sem.run_bind, Sem.run_pure, Result.andThen_ok, invoke, Array.empty_append, Array.append_empty]
  exact hy
end
end Go.Proofs.Ytmgajgeoibbmjaa
