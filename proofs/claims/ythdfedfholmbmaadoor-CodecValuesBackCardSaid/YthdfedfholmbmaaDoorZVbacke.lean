/- Texts that the proof shares (each declaration is a lemma of this layer). -/
import Derived.Test.YthdfedfholmbmaaDoorZVbacka
import Derived.Test.YthdfedfholmbmaaDoorZVbackb
import Derived.Test.YthdfedfholmbmaaDoorZVbackc
import Derived.Test.YthdfedfholmbmaaDoorZVbackd
import Derived.Recover
set_option linter.unusedSimpArgs false
set_option linter.unusedVariables false
namespace Go.Proofs.YthdfedfholmbmaaDoor
open Go.RowKit
section
variable {P : Program} {ops : Array Oper} {rest : List Oper} {Q : Exit → Act → World → Prop} {a : Act} {w w' : World} {dst : Option Tmp} {ty : TypeId} {pos : String} {af : Array Edge} {t : TypeId} {x y : Operand} {v : Value}
theorem op_loadG {b : Addr} {g : Nat × Bool} (hr : (loadVar t b).run P w = .ok v w) (hx : a.eval x = .pointer (some b)) (hw : Region.wanted (⟨dst, .load t x, ty, pos, af, some g⟩ : Oper) (yielded ops a.tmps) = true) (h : wpList P ops Q rest (a.put dst v) w) : wpList P ops Q (⟨dst, .load t x, ty, pos, af, some g⟩ :: rest) a w := wpList_runG hw (exec_load rfl hx hr) h
theorem results_cells2 {fn : Func} {p q : Tmp} {tz : TypeId} (h : fn.results = #[.cell p t, .cell q tz]) (tmps : Array Value) (w : World) (ad ad2 : Addr) (v v2 : Value)
    (hp : tmps.getD p undef = .pointer (some ad)) (hq : tmps.getD q undef = .pointer (some ad2)) (hl : (loadVar t ad).run P w = .ok v w) (hl2 : (loadVar tz ad2).run P w = .ok v2 w) : (results fn tmps).run P w = .ok (.tuple #[v, v2]) w := by
  have hp' : tmps[p]?.getD undef = .pointer (some ad) := by simpa using hp
  have hq' : tmps[q]?.getD undef = .pointer (some ad2) := by simpa using hq
  simp [results, h, hp', hq', asAddr, hl, hl2]
end
def mk1 (c : Array Value) : Value := c.getD 0 undef
structure VT (T : TypeId) (K : Nat) (mk : Array Value → Value) : Prop where
  put : ∀ {W : World} {g : Nat} {z c : Array Value}, c.size = K → (∀ u ∈ c.toList, u.oneCell' = true) → W.heap[g]? = some (.cells z T (0, 0)) → z.size = K → (storeVar T ⟨g, 0, none⟩ (mk c)).run Tryd.prog W = .ok () (W.setRow g c)
  get : ∀ {W : World} {g : Nat} {c : Array Value}, c.size = K → W.heap[g]? = some (.cells c T (0, 0)) → (loadVar T ⟨g, 0, none⟩).run Tryd.prog W = .ok (mk c) W
theorem VT.of {T : TypeId} {K : Nat} (h : StT Tryd.prog T K) : VT T K .agg := ⟨fun h1 h2 h3 h4 => h.put h1 h2 h3 h4, fun h1 h2 => h.get h1 h2⟩
theorem VT.one {T : TypeId} {d : TypeDesc} (hu : Tryd.prog.underlying T = some d) (hd : isAggD d = false) (hi : (Tryd.prog.info? T).map (·.size) = some 1) : VT T 1 mk1 := by
  refine ⟨fun {W g z c} h1 h2 h3 h4 => ?_, fun {W g c} h1 h2 => ?_⟩
  · obtain ⟨u, rfl⟩ : ∃ u, c = #[u] := by
      rcases c with ⟨l⟩
      match l, h1 with
      | [u], _ => exact ⟨u, rfl⟩
    have h1u : u.oneCell' = true := h2 u (by simp)
    have hc : u.cells = #[u] := by cases u <;> first | rfl | (simp [Value.oneCell'] at h1u)
    have hr := run_storeVar_row (P := Tryd.prog) W g T T z #[u] h3 hi (by simpa using h4) (by simp [h1u])
    have e : storeVar T ⟨g, 0, none⟩ (.agg #[u]) = storeVar T ⟨g, 0, none⟩ u := by unfold storeVar; rw [hc]; rfl
    rw [e] at hr
    exact hr
  · obtain ⟨u, rfl⟩ : ∃ u, c = #[u] := by
      rcases c with ⟨l⟩
      match l, h1 with
      | [u], _ => exact ⟨u, rfl⟩
    exact run_load1 hu (by revert hd; cases d <;> simp [isAggD]) (cellOf (o := 0) h2 rfl)
theorem vt_graph : VT 55 4 .agg := .of st_graph
theorem vt_val : VT 41 6 .agg := .of st_val
theorem vt_u64 : VT 22 1 mk1 := .one Tryd.underlying22 rfl (by kernel_rfl)
theorem vt_errno : VT 26 1 mk1 := .one Tryd.underlying26 rfl (by kernel_rfl)
section
variable {α : Type} {d : Dec α} {ok : α → Bool} {b s : List UInt8} {x : α}
theorem readW_none (h : d b = none) : readW d ok b = none := by unfold readW; rw [h]
theorem readW_left (h : d b = some (x, s)) (hs : s ≠ []) : readW d ok b = none := by
  unfold readW; rw [h]
  cases s with
  | nil => exact absurd rfl hs
  | cons => rfl
theorem readW_no (h : d b = some (x, [])) (hx : ok x = false) : readW d ok b = none := by unfold readW; rw [h]; simp [hx]
theorem readW_yes (h : d b = some (x, [])) (hx : ok x = true) : readW d ok b = some x := by unfold readW; rw [h]; simp [hx]
end
def ReadPost {α : Type} (w W : World) (X : Nat → Prop) (mk : Array Value → Value) (z : Array Value) (OK : World → α → Array Value → Prop) (Jn : World → Prop) (fails : Prop) (r : Option α) (e : Ending) (W' : World) : Prop :=
  Below w.heap.size w W' ∧ W.heap.size ≤ W'.heap.size ∧ (∀ b, b < W.heap.size → ¬ X b → W'.heap[b]? = W.heap[b]?) ∧ match r with
    | some x => ∃ cs, e = .returned (.tuple #[mk cs, .int .i64 0]) ∧ OK W' x cs ∧ Jn W'
    | none => e = .returned (.tuple #[mk z, .int .i64 290]) ∧ (fails → ∀ b, X b → W'.heap[b]? = W.heap[b]?)
theorem idleG (p q : Addr) (w : World) :
    CallsD Tryd.prog 69 #[.pointer (some p), .pointer (some q)] .returning w fun e u' w' => e = .returned (.tuple #[]) ∧ u' = .returning ∧ w' = w := by
  have hnil : ∀ w : World, (binOp BinOp.eql 20 .nilIface .nilIface).run Tryd.prog w = .ok (.bool true) w := fun _ => by kernel_rfl
  refine callsD_of_wpS Tryd.func69 rfl fun c₀ cs hu => ?_
  apply wpS_seq
  apply wpS_region
  simp [wpOpsS, go_sem, recoverD, hu, Tryd.ntmps69, Exit.thenS]
  have e : (#[.pointer (some p), .pointer (some q)] ++ (Array.replicate 11 undef).setIfInBounds 4 Value.nilIface : Array Value) = #[.pointer (some p), .pointer (some q), undef, undef, undef, undef, .nilIface, undef, undef, undef, undef, undef, undef] := rfl
  rw [e]
  clear e
  refine wpS_of_wp ?_
  have HU := Lib.hid hu
  clear hu
  go_wp2
  refine ⟨rfl, .returning, ?_, _, results_none rfl _ _ _, rfl, rfl, rfl⟩
  have hu := HU.out
  cases c₀
  simp_all
set_option maxRecDepth 100000 in
set_option maxHeartbeats 1000000 in
theorem caughtG {w : World} {P Q : Nat} {z : Array Value} {n : Int} (hp : w.heap[P]? = some (.cells z 55 (0, 0))) (hz : z.size = 4) (hq : w.heap[Q]? = some (.cells #[.int .i64 n] 26 (0, 0))) (hne : P ≠ Q) :
    CallsD Tryd.prog 69 #[.pointer (some ⟨P, 0, none⟩), .pointer (some ⟨Q, 0, none⟩)] (.panicking [{ v := badV, recovered := false }]) w fun e u' w' =>
      e = .returned (.tuple #[]) ∧ u' = .panicking [{ v := badV, recovered := true }] ∧ w'.heap[P]? = some (.cells #[.slice none 0 0, .slice none 0 0, .int .i64 0, .int .i64 0] 55 (0, 0)) ∧ w'.heap[Q]? = some (.cells #[.int .i64 290] 26 (0, 0)) ∧ Touch (fun x => x = P ∨ x = Q) w w' := by
  have hnil : ∀ w : World, (binOp BinOp.eql 20 badV .nilIface).run Tryd.prog w = .ok (.bool false) w := fun _ => by rfl
  have hta : ∀ w : World, (Instr.typeAssert badV 20 102 true).run Tryd.prog w = .ok (.tuple #[.agg #[], .bool true]) w := fun _ => by rfl
  have hB : Below w.heap.size w ((w.alloc (.cells #[] 102)).alloc (.cells #[.slice none 0 0, .slice none 0 0, .int .i64 0, .int .i64 0] 55)) := (below_new _).alloc (by simp) _
  have hlp := (Array.getElem?_eq_some_iff.1 hp).1
  have hlq := (Array.getElem?_eq_some_iff.1 hq).1
  have hp1 := belowBlk hB hlp hp
  have hq1 := belowBlk hB hlq hq
  have h4 : ((w.alloc (.cells #[] 102)).alloc (.cells #[.slice none 0 0, .slice none 0 0, .int .i64 0, .int .i64 0] 55)).heap[w.heap.size + 1]? = some (.cells #[.slice none 0 0, .slice none 0 0, .int .i64 0, .int .i64 0] 55 (0, 0)) := by
    simp only [heap_get_alloc, World.size_alloc]; rw [if_pos trivial]
  have hT1 : Touch (fun x => x = P ∨ x = Q) w ((w.alloc (.cells #[] 102)).alloc (.cells #[.slice none 0 0, .slice none 0 0, .int .i64 0, .int .i64 0] 55)) := ((Touch.refl _ _).alloc _).alloc _
  have HL := Lib.hid (vt_graph.get (c := #[.slice none 0 0, .slice none 0 0, .int .i64 0, .int .i64 0]) rfl h4)
  have HS := Lib.hid (vt_graph.put (c := #[.slice none 0 0, .slice none 0 0, .int .i64 0, .int .i64 0]) rfl (by simp [Value.oneCell']) hp1 hz)
  generalize hWa : (w.alloc (.cells #[] 102)).alloc (.cells #[.slice none 0 0, .slice none 0 0, .int .i64 0, .int .i64 0] 55) = Wa at *
  have hq2 := (setRow_other Wa P Q #[.slice none 0 0, .slice none 0 0, .int .i64 0, .int .i64 0] (fun e => hne e.symm)).trans hq1
  have hp2 := setRow_heap Wa P z #[.slice none 0 0, .slice none 0 0, .int .i64 0, .int .i64 0] _ _ hp1
  have hT2 : Touch (fun x => x = P ∨ x = Q) w (Wa.setRow P #[.slice none 0 0, .slice none 0 0, .int .i64 0, .int .i64 0]) := by
    have hs : (Wa.setRow P #[.slice none 0 0, .slice none 0 0, .int .i64 0, .int .i64 0]).heap.size = Wa.heap.size := by simp
    exact hT1.step (show Touch (fun x => x = P) Wa (Wa.setRow P #[.slice none 0 0, .slice none 0 0, .int .i64 0, .int .i64 0]) from ⟨rfl, rfl, rfl, by rw [hs]; exact Nat.le_refl _, fun b _ hb => setRow_other Wa P b #[.slice none 0 0, .slice none 0 0, .int .i64 0, .int .i64 0] hb⟩) (fun x _ h => .inl h)
  have HE := Lib.hid (vt_errno.put (c := #[.int .i64 290]) rfl (by simp [Value.oneCell']) hq2 rfl)
  have hp3 := (setRow_other (Wa.setRow P #[.slice none 0 0, .slice none 0 0, .int .i64 0, .int .i64 0]) Q P #[.int .i64 290] hne).trans hp2
  have hq3 := setRow_heap (Wa.setRow P #[.slice none 0 0, .slice none 0 0, .int .i64 0, .int .i64 0]) Q _ #[.int .i64 290] _ _ hq2
  have hT3 : Touch (fun x => x = P ∨ x = Q) w ((Wa.setRow P #[.slice none 0 0, .slice none 0 0, .int .i64 0, .int .i64 0]).setRow Q #[.int .i64 290]) := by
    have hs : ((Wa.setRow P #[.slice none 0 0, .slice none 0 0, .int .i64 0, .int .i64 0]).setRow Q #[.int .i64 290]).heap.size = (Wa.setRow P #[.slice none 0 0, .slice none 0 0, .int .i64 0, .int .i64 0]).heap.size := by simp
    exact hT2.step (show Touch (fun x => x = Q) (Wa.setRow P #[.slice none 0 0, .slice none 0 0, .int .i64 0, .int .i64 0]) ((Wa.setRow P #[.slice none 0 0, .slice none 0 0, .int .i64 0, .int .i64 0]).setRow Q #[.int .i64 290]) from ⟨rfl, rfl, rfl, by rw [hs]; exact Nat.le_refl _, fun b _ hb => setRow_other _ Q b _ hb⟩) (fun x _ h => .inr h)
  have HF := Lib.hid (And.intro hp3 (And.intro hq3 hT3))
  clear hB hp1 hq1 h4 hT1 hq2 hp2 hT2 hp3 hq3 hT3
  refine callsD_of_wpS Tryd.func69 rfl fun c₀ cs hu => ?_
  apply wpS_seq
  apply wpS_region
  simp [wpOpsS, go_sem, recoverD, hu, Tryd.ntmps69, Exit.thenS]
  have e : (#[.pointer (some ⟨P, 0, none⟩), .pointer (some ⟨Q, 0, none⟩)] ++ (Array.replicate 11 undef).setIfInBounds 4 badV : Array Value) = #[.pointer (some ⟨P, 0, none⟩), .pointer (some ⟨Q, 0, none⟩), undef, undef, undef, undef, badV, undef, undef, undef, undef, undef, undef] := rfl
  rw [e]
  clear e
  refine wpS_of_wp ?_
  have HU := Lib.hid hu
  clear hu
  go_wp2_with (first
    | ((with_reducible apply op_load); exact HL.out; exact rfl)
    | ((with_reducible apply op_store); exact HS.out; exact rfl; exact rfl)
    | ((with_reducible apply op_store); exact HE.out; exact rfl; exact rfl))
  refine ⟨rfl, .panicking [{ v := badV, recovered := true }], ?_, _, results_none rfl _ _ _, rfl, rfl, HF.out⟩
  rfl
theorem idleV (p q : Addr) (w : World) :
    CallsD Tryd.prog 57 #[.pointer (some p), .pointer (some q)] .returning w fun e u' w' => e = .returned (.tuple #[]) ∧ u' = .returning ∧ w' = w := by
  have hnil : ∀ w : World, (binOp BinOp.eql 20 .nilIface .nilIface).run Tryd.prog w = .ok (.bool true) w := fun _ => by kernel_rfl
  refine callsD_of_wpS Tryd.func57 rfl fun c₀ cs hu => ?_
  apply wpS_seq
  apply wpS_region
  simp [wpOpsS, go_sem, recoverD, hu, Tryd.ntmps57, Exit.thenS]
  have e : (#[.pointer (some p), .pointer (some q)] ++ (Array.replicate 11 undef).setIfInBounds 4 Value.nilIface : Array Value) = #[.pointer (some p), .pointer (some q), undef, undef, undef, undef, .nilIface, undef, undef, undef, undef, undef, undef] := rfl
  rw [e]
  clear e
  refine wpS_of_wp ?_
  have HU := Lib.hid hu
  clear hu
  go_wp2
  refine ⟨rfl, .returning, ?_, _, results_none rfl _ _ _, rfl, rfl, rfl⟩
  have hu := HU.out
  cases c₀
  simp_all
set_option maxRecDepth 100000 in
set_option maxHeartbeats 1000000 in
theorem caughtV {w : World} {P Q : Nat} {z : Array Value} {n : Int} (hp : w.heap[P]? = some (.cells z 41 (0, 0))) (hz : z.size = 6) (hq : w.heap[Q]? = some (.cells #[.int .i64 n] 26 (0, 0))) (hne : P ≠ Q) :
    CallsD Tryd.prog 57 #[.pointer (some ⟨P, 0, none⟩), .pointer (some ⟨Q, 0, none⟩)] (.panicking [{ v := badV, recovered := false }]) w fun e u' w' =>
      e = .returned (.tuple #[]) ∧ u' = .panicking [{ v := badV, recovered := true }] ∧ w'.heap[P]? = some (.cells #[.int .i64 0, .bool false, .int .i64 0, .string ⟨#[]⟩, .slice none 0 0, .slice none 0 0] 41 (0, 0)) ∧ w'.heap[Q]? = some (.cells #[.int .i64 290] 26 (0, 0)) ∧ Touch (fun x => x = P ∨ x = Q) w w' := by
  have hnil : ∀ w : World, (binOp BinOp.eql 20 badV .nilIface).run Tryd.prog w = .ok (.bool false) w := fun _ => by rfl
  have hta : ∀ w : World, (Instr.typeAssert badV 20 102 true).run Tryd.prog w = .ok (.tuple #[.agg #[], .bool true]) w := fun _ => by rfl
  have hB : Below w.heap.size w ((w.alloc (.cells #[] 102)).alloc (.cells #[.int .i64 0, .bool false, .int .i64 0, .string ⟨#[]⟩, .slice none 0 0, .slice none 0 0] 41)) := (below_new _).alloc (by simp) _
  have hlp := (Array.getElem?_eq_some_iff.1 hp).1
  have hlq := (Array.getElem?_eq_some_iff.1 hq).1
  have hp1 := belowBlk hB hlp hp
  have hq1 := belowBlk hB hlq hq
  have h4 : ((w.alloc (.cells #[] 102)).alloc (.cells #[.int .i64 0, .bool false, .int .i64 0, .string ⟨#[]⟩, .slice none 0 0, .slice none 0 0] 41)).heap[w.heap.size + 1]? = some (.cells #[.int .i64 0, .bool false, .int .i64 0, .string ⟨#[]⟩, .slice none 0 0, .slice none 0 0] 41 (0, 0)) := by
    simp only [heap_get_alloc, World.size_alloc]; rw [if_pos trivial]
  have hT1 : Touch (fun x => x = P ∨ x = Q) w ((w.alloc (.cells #[] 102)).alloc (.cells #[.int .i64 0, .bool false, .int .i64 0, .string ⟨#[]⟩, .slice none 0 0, .slice none 0 0] 41)) := ((Touch.refl _ _).alloc _).alloc _
  have HL := Lib.hid (vt_val.get (c := #[.int .i64 0, .bool false, .int .i64 0, .string ⟨#[]⟩, .slice none 0 0, .slice none 0 0]) rfl h4)
  have HS := Lib.hid (vt_val.put (c := #[.int .i64 0, .bool false, .int .i64 0, .string ⟨#[]⟩, .slice none 0 0, .slice none 0 0]) rfl (by simp [Value.oneCell']) hp1 hz)
  generalize hWa : (w.alloc (.cells #[] 102)).alloc (.cells #[.int .i64 0, .bool false, .int .i64 0, .string ⟨#[]⟩, .slice none 0 0, .slice none 0 0] 41) = Wa at *
  have hq2 := (setRow_other Wa P Q #[.int .i64 0, .bool false, .int .i64 0, .string ⟨#[]⟩, .slice none 0 0, .slice none 0 0] (fun e => hne e.symm)).trans hq1
  have hp2 := setRow_heap Wa P z #[.int .i64 0, .bool false, .int .i64 0, .string ⟨#[]⟩, .slice none 0 0, .slice none 0 0] _ _ hp1
  have hT2 : Touch (fun x => x = P ∨ x = Q) w (Wa.setRow P #[.int .i64 0, .bool false, .int .i64 0, .string ⟨#[]⟩, .slice none 0 0, .slice none 0 0]) := by
    have hs : (Wa.setRow P #[.int .i64 0, .bool false, .int .i64 0, .string ⟨#[]⟩, .slice none 0 0, .slice none 0 0]).heap.size = Wa.heap.size := by simp
    exact hT1.step (show Touch (fun x => x = P) Wa (Wa.setRow P #[.int .i64 0, .bool false, .int .i64 0, .string ⟨#[]⟩, .slice none 0 0, .slice none 0 0]) from ⟨rfl, rfl, rfl, by rw [hs]; exact Nat.le_refl _, fun b _ hb => setRow_other Wa P b #[.int .i64 0, .bool false, .int .i64 0, .string ⟨#[]⟩, .slice none 0 0, .slice none 0 0] hb⟩) (fun x _ h => .inl h)
  have HE := Lib.hid (vt_errno.put (c := #[.int .i64 290]) rfl (by simp [Value.oneCell']) hq2 rfl)
  have hp3 := (setRow_other (Wa.setRow P #[.int .i64 0, .bool false, .int .i64 0, .string ⟨#[]⟩, .slice none 0 0, .slice none 0 0]) Q P #[.int .i64 290] hne).trans hp2
  have hq3 := setRow_heap (Wa.setRow P #[.int .i64 0, .bool false, .int .i64 0, .string ⟨#[]⟩, .slice none 0 0, .slice none 0 0]) Q _ #[.int .i64 290] _ _ hq2
  have hT3 : Touch (fun x => x = P ∨ x = Q) w ((Wa.setRow P #[.int .i64 0, .bool false, .int .i64 0, .string ⟨#[]⟩, .slice none 0 0, .slice none 0 0]).setRow Q #[.int .i64 290]) := by
    have hs : ((Wa.setRow P #[.int .i64 0, .bool false, .int .i64 0, .string ⟨#[]⟩, .slice none 0 0, .slice none 0 0]).setRow Q #[.int .i64 290]).heap.size = (Wa.setRow P #[.int .i64 0, .bool false, .int .i64 0, .string ⟨#[]⟩, .slice none 0 0, .slice none 0 0]).heap.size := by simp
    exact hT2.step (show Touch (fun x => x = Q) (Wa.setRow P #[.int .i64 0, .bool false, .int .i64 0, .string ⟨#[]⟩, .slice none 0 0, .slice none 0 0]) ((Wa.setRow P #[.int .i64 0, .bool false, .int .i64 0, .string ⟨#[]⟩, .slice none 0 0, .slice none 0 0]).setRow Q #[.int .i64 290]) from ⟨rfl, rfl, rfl, by rw [hs]; exact Nat.le_refl _, fun b _ hb => setRow_other _ Q b _ hb⟩) (fun x _ h => .inr h)
  have HF := Lib.hid (And.intro hp3 (And.intro hq3 hT3))
  clear hB hp1 hq1 h4 hT1 hq2 hp2 hT2 hp3 hq3 hT3
  refine callsD_of_wpS Tryd.func57 rfl fun c₀ cs hu => ?_
  apply wpS_seq
  apply wpS_region
  simp [wpOpsS, go_sem, recoverD, hu, Tryd.ntmps57, Exit.thenS]
  have e : (#[.pointer (some ⟨P, 0, none⟩), .pointer (some ⟨Q, 0, none⟩)] ++ (Array.replicate 11 undef).setIfInBounds 4 badV : Array Value) = #[.pointer (some ⟨P, 0, none⟩), .pointer (some ⟨Q, 0, none⟩), undef, undef, undef, undef, badV, undef, undef, undef, undef, undef, undef] := rfl
  rw [e]
  clear e
  refine wpS_of_wp ?_
  have HU := Lib.hid hu
  clear hu
  go_wp2_with (first
    | ((with_reducible apply op_load); exact HL.out; exact rfl)
    | ((with_reducible apply op_store); exact HS.out; exact rfl; exact rfl)
    | ((with_reducible apply op_store); exact HE.out; exact rfl; exact rfl))
  refine ⟨rfl, .panicking [{ v := badV, recovered := true }], ?_, _, results_none rfl _ _ _, rfl, rfl, HF.out⟩
  rfl
theorem idleN (p q : Addr) (w : World) :
    CallsD Tryd.prog 47 #[.pointer (some p), .pointer (some q)] .returning w fun e u' w' => e = .returned (.tuple #[]) ∧ u' = .returning ∧ w' = w := by
  have hnil : ∀ w : World, (binOp BinOp.eql 20 .nilIface .nilIface).run Tryd.prog w = .ok (.bool true) w := fun _ => by kernel_rfl
  refine callsD_of_wpS Tryd.func47 rfl fun c₀ cs hu => ?_
  apply wpS_seq
  apply wpS_region
  simp [wpOpsS, go_sem, recoverD, hu, Tryd.ntmps47, Exit.thenS]
  have e : (#[.pointer (some p), .pointer (some q)] ++ (Array.replicate 11 undef).setIfInBounds 4 Value.nilIface : Array Value) = #[.pointer (some p), .pointer (some q), undef, undef, undef, undef, .nilIface, undef, undef, undef, undef, undef, undef] := rfl
  rw [e]
  clear e
  refine wpS_of_wp ?_
  have HU := Lib.hid hu
  clear hu
  go_wp2
  refine ⟨rfl, .returning, ?_, _, results_none rfl _ _ _, rfl, rfl, rfl⟩
  have hu := HU.out
  cases c₀
  simp_all
set_option maxRecDepth 100000 in
set_option maxHeartbeats 1000000 in
theorem caughtN {w : World} {P Q : Nat} {z : Array Value} {n : Int} (hp : w.heap[P]? = some (.cells z 22 (0, 0))) (hz : z.size = 1) (hq : w.heap[Q]? = some (.cells #[.int .i64 n] 26 (0, 0))) (hne : P ≠ Q) :
    CallsD Tryd.prog 47 #[.pointer (some ⟨P, 0, none⟩), .pointer (some ⟨Q, 0, none⟩)] (.panicking [{ v := badV, recovered := false }]) w fun e u' w' =>
      e = .returned (.tuple #[]) ∧ u' = .panicking [{ v := badV, recovered := true }] ∧ w'.heap[P]? = some (.cells #[.int .u64 0] 22 (0, 0)) ∧ w'.heap[Q]? = some (.cells #[.int .i64 290] 26 (0, 0)) ∧ Touch (fun x => x = P ∨ x = Q) w w' := by
  have hnil : ∀ w : World, (binOp BinOp.eql 20 badV .nilIface).run Tryd.prog w = .ok (.bool false) w := fun _ => by rfl
  have hta : ∀ w : World, (Instr.typeAssert badV 20 102 true).run Tryd.prog w = .ok (.tuple #[.agg #[], .bool true]) w := fun _ => by rfl
  have hB : Below w.heap.size w (w.alloc (.cells #[] 102)) := below_new _
  have hlp := (Array.getElem?_eq_some_iff.1 hp).1
  have hlq := (Array.getElem?_eq_some_iff.1 hq).1
  have hp1 := belowBlk hB hlp hp
  have hq1 := belowBlk hB hlq hq
  have hT1 : Touch (fun x => x = P ∨ x = Q) w (w.alloc (.cells #[] 102)) := (Touch.refl _ _).alloc _
  have HS := Lib.hid (vt_u64.put (c := #[.int .u64 0]) rfl (by simp [Value.oneCell']) hp1 hz)
  generalize hWa : w.alloc (.cells #[] 102) = Wa at *
  have hq2 := (setRow_other Wa P Q #[.int .u64 0] (fun e => hne e.symm)).trans hq1
  have hp2 := setRow_heap Wa P z #[.int .u64 0] _ _ hp1
  have hT2 : Touch (fun x => x = P ∨ x = Q) w (Wa.setRow P #[.int .u64 0]) := by
    have hs : (Wa.setRow P #[.int .u64 0]).heap.size = Wa.heap.size := by simp
    exact hT1.step (show Touch (fun x => x = P) Wa (Wa.setRow P #[.int .u64 0]) from ⟨rfl, rfl, rfl, by rw [hs]; exact Nat.le_refl _, fun b _ hb => setRow_other Wa P b #[.int .u64 0] hb⟩) (fun x _ h => .inl h)
  have HE := Lib.hid (vt_errno.put (c := #[.int .i64 290]) rfl (by simp [Value.oneCell']) hq2 rfl)
  have hp3 := (setRow_other (Wa.setRow P #[.int .u64 0]) Q P #[.int .i64 290] hne).trans hp2
  have hq3 := setRow_heap (Wa.setRow P #[.int .u64 0]) Q _ #[.int .i64 290] _ _ hq2
  have hT3 : Touch (fun x => x = P ∨ x = Q) w ((Wa.setRow P #[.int .u64 0]).setRow Q #[.int .i64 290]) := by
    have hs : ((Wa.setRow P #[.int .u64 0]).setRow Q #[.int .i64 290]).heap.size = (Wa.setRow P #[.int .u64 0]).heap.size := by simp
    exact hT2.step (show Touch (fun x => x = Q) (Wa.setRow P #[.int .u64 0]) ((Wa.setRow P #[.int .u64 0]).setRow Q #[.int .i64 290]) from ⟨rfl, rfl, rfl, by rw [hs]; exact Nat.le_refl _, fun b _ hb => setRow_other _ Q b _ hb⟩) (fun x _ h => .inr h)
  have HF := Lib.hid (And.intro hp3 (And.intro hq3 hT3))
  clear hB hp1 hq1 hT1 hq2 hp2 hT2 hp3 hq3 hT3
  refine callsD_of_wpS Tryd.func47 rfl fun c₀ cs hu => ?_
  apply wpS_seq
  apply wpS_region
  simp [wpOpsS, go_sem, recoverD, hu, Tryd.ntmps47, Exit.thenS]
  have e : (#[.pointer (some ⟨P, 0, none⟩), .pointer (some ⟨Q, 0, none⟩)] ++ (Array.replicate 11 undef).setIfInBounds 4 badV : Array Value) = #[.pointer (some ⟨P, 0, none⟩), .pointer (some ⟨Q, 0, none⟩), undef, undef, undef, undef, badV, undef, undef, undef, undef, undef, undef] := rfl
  rw [e]
  clear e
  refine wpS_of_wp ?_
  have HU := Lib.hid hu
  clear hu
  go_wp2_with (first
    | ((with_reducible apply op_store); exact HS.out; exact rfl; exact rfl)
    | ((with_reducible apply op_store); exact HE.out; exact rfl; exact rfl))
  refine ⟨rfl, .panicking [{ v := badV, recovered := true }], ?_, _, results_none rfl _ _ _, rfl, rfl, HF.out⟩
  rfl
end Go.Proofs.YthdfedfholmbmaaDoor

namespace Go.Proofs.YthdfedfholmbmaaDoor
open Go.RowKit
structure RdMid {α : Type} (TY : TypeId) (w W : World) (X : Nat → Prop) (OK : World → α → Array Value → Prop) (Jn : World → Prop) (x : α) (cs : Array Value) (W3 : World) : Prop where
  size : W.heap.size + 3 ≤ W3.heap.size
  b : Below w.heap.size w W3
  keep : ∀ b, b < W.heap.size → ¬ X b → W3.heap[b]? = W.heap[b]?
  q6 : W3.heap[W.heap.size]? = some (.cells cs TY (0, 0))
  q7 : W3.heap[W.heap.size + 1]? = some (.cells #[.int .i64 0] 26 (0, 0))
  ok : OK W3 x cs
  jn : Jn W3
section
variable {α : Type} {TY : TypeId} {w W W2 W3 W4 : World} {X : Nat → Prop} {OK : World → α → Array Value → Prop} {Jn : World → Prop} {x : α} {cs cz z : Array Value} {mk : Array Value → Value} {fails : Prop} {r : Option α}
theorem RdMid.step (h : RdMid TY w W X OK Jn x cs W3) (hw : w.heap.size ≤ W.heap.size) (hOKk : ∀ (W1 W2 : World) x cs, OK W1 x cs → (∀ b, W.heap.size + 3 ≤ b → b < W1.heap.size → W2.heap[b]? = W1.heap[b]?) → OK W2 x cs) (hJn : ∀ W1 W2 : World, Jn W1 → (∀ b, b < W.heap.size → W2.heap[b]? = W1.heap[b]?) → Jn W2)
    (g : Touch (fun b => b = W.heap.size ∨ b = W.heap.size + 1) W3 W4) (q6 : W4.heap[W.heap.size]? = some (.cells cs TY (0, 0))) (q7 : W4.heap[W.heap.size + 1]? = some (.cells #[.int .i64 0] 26 (0, 0))) : RdMid TY w W X OK Jn x cs W4 :=
  ⟨Nat.le_trans h.size g.size, g.below h.b (fun b hb he => by omega) (by have := h.size; omega),
    fun b hb hx => (g.block b (by have := h.size; omega) (by omega)).trans (h.keep b hb hx), q6, q7,
    hOKk _ _ _ _ h.ok fun b h1 h2 => g.block b h2 (by omega), hJn _ _ h.jn fun b hb => g.block b (by have := h.size; omega) (by omega)⟩
theorem RdMid.below (h : RdMid TY w W X OK Jn x cs W3) (hw : w.heap.size ≤ W.heap.size) (hOKk : ∀ (W1 W2 : World) x cs, OK W1 x cs → (∀ b, W.heap.size + 3 ≤ b → b < W1.heap.size → W2.heap[b]? = W1.heap[b]?) → OK W2 x cs) (hJn : ∀ W1 W2 : World, Jn W1 → (∀ b, b < W.heap.size → W2.heap[b]? = W1.heap[b]?) → Jn W2)
    (g : Below W3.heap.size W3 W4) : RdMid TY w W X OK Jn x cs W4 :=
  h.step hw hOKk hJn (Touch.of_below g fun b h1 h2 => absurd h1 (by omega)) (belowBlk g (by have := h.size; omega) h.q6) (belowBlk g (by have := h.size; omega) h.q7)
theorem touch_row (W3 : World) (b : Nat) (c : Array Value) {S : Nat → Prop} (hS : S b) : Touch S W3 (W3.setRow b c) :=
  ⟨rfl, rfl, rfl, by simp, fun y _ hy => setRow_other W3 b y c (fun e => hy (e ▸ hS))⟩
theorem RdMid.set6 (h : RdMid TY w W X OK Jn x cs W3) (hw : w.heap.size ≤ W.heap.size) (hOKk : ∀ (W1 W2 : World) x cs, OK W1 x cs → (∀ b, W.heap.size + 3 ≤ b → b < W1.heap.size → W2.heap[b]? = W1.heap[b]?) → OK W2 x cs) (hJn : ∀ W1 W2 : World, Jn W1 → (∀ b, b < W.heap.size → W2.heap[b]? = W1.heap[b]?) → Jn W2) : RdMid TY w W X OK Jn x cs (W3.setRow W.heap.size cs) :=
  h.step hw hOKk hJn (touch_row W3 _ _ (.inl rfl)) (setRow_heap W3 _ _ cs _ _ h.q6) ((setRow_other W3 _ _ cs (by omega)).trans h.q7)
theorem RdMid.set7 (h : RdMid TY w W X OK Jn x cs W3) (hw : w.heap.size ≤ W.heap.size) (hOKk : ∀ (W1 W2 : World) x cs, OK W1 x cs → (∀ b, W.heap.size + 3 ≤ b → b < W1.heap.size → W2.heap[b]? = W1.heap[b]?) → OK W2 x cs) (hJn : ∀ W1 W2 : World, Jn W1 → (∀ b, b < W.heap.size → W2.heap[b]? = W1.heap[b]?) → Jn W2) : RdMid TY w W X OK Jn x cs (W3.setRow (W.heap.size + 1) #[.int .i64 0]) :=
  h.step hw hOKk hJn (touch_row W3 _ _ (.inr rfl)) ((setRow_other W3 _ _ _ (by omega)).trans h.q6) (setRow_heap W3 _ _ _ _ _ h.q7)
theorem RdMid.first (hw : w.heap.size ≤ W.heap.size) (hX : ∀ b, X b → b < W.heap.size) (hOKk : ∀ (W1 W2 : World) x cs, OK W1 x cs → (∀ b, W.heap.size + 3 ≤ b → b < W1.heap.size → W2.heap[b]? = W1.heap[b]?) → OK W2 x cs) (hJn : ∀ W1 W2 : World, Jn W1 → (∀ b, b < W.heap.size → W2.heap[b]? = W1.heap[b]?) → Jn W2)
    (hs2 : W.heap.size + 3 ≤ W2.heap.size) (hb2 : Below w.heap.size w W2) (hk : ∀ b, b < W.heap.size → ¬ X b → W2.heap[b]? = W.heap[b]?) (h6 : W2.heap[W.heap.size]? = some (.cells z TY (0, 0))) (h7 : W2.heap[W.heap.size + 1]? = some (.cells #[.int .i64 0] 26 (0, 0))) (ho : OK W2 x cs) (hj : Jn W2) :
    RdMid TY w W X OK Jn x cs (W2.setRow W.heap.size cs) := by
  have g := touch_row W2 W.heap.size cs (S := fun b => b = W.heap.size ∨ b = W.heap.size + 1) (.inl rfl)
  exact ⟨Nat.le_trans hs2 g.size, g.below hb2 (fun b hb he => by omega) (by omega), fun b hb hx => (g.block b (by omega) (by omega)).trans (hk b hb hx), setRow_heap W2 _ _ cs _ _ h6, (setRow_other W2 _ _ cs (by omega)).trans h7, hOKk _ _ _ _ ho fun b h1 h2 => g.block b h2 (by omega), hJn _ _ hj fun b hb => g.block b (by omega) (by omega)⟩
theorem RdMid.bad (h : RdMid TY w W X OK Jn x cs W3) (hw : w.heap.size ≤ W.heap.size) (g : Touch (fun b => b = W.heap.size ∨ b = W.heap.size + 1) W3 W4) (hr : r = none) (hf : ¬ fails) : ReadPost w W X mk z OK Jn fails r (.returned (.tuple #[mk z, .int .i64 290])) W4 := by
  subst hr
  exact ⟨g.below h.b (fun b hb he => by omega) (by have := h.size; omega), by have := h.size; have := g.size; omega, fun b hb hx => (g.block b (by have := h.size; omega) (by omega)).trans (h.keep b hb hx), rfl, fun k => absurd k hf⟩
theorem RdMid.good (h : RdMid TY w W X OK Jn x cs W3) (hr : r = some x) : ReadPost w W X mk z OK Jn fails r (.returned (.tuple #[mk cs, .int .i64 0])) W3 := by
  subst hr
  exact ⟨h.b, by have := h.size; omega, h.keep, cs, rfl, h.ok, h.jn⟩
end
end Go.Proofs.YthdfedfholmbmaaDoor

namespace Go.Proofs.YthdfedfholmbmaaDoor
open Go.RowKit
theorem leavesG_bad {fn : Func} {tmps : Array Value} {R : Ending → World → Prop} {W2 : World} {z : Array Value} {n : Int} {B6 B7 : Nat} (h6 : W2.heap[B6]? = some (.cells z 55 (0, 0))) (hz : z.size = 4) (h7 : W2.heap[B7]? = some (.cells #[.int .i64 n] 26 (0, 0))) (hne : B6 ≠ B7)
    (hres : fn.results = #[.cell 6 55, .cell 7 26]) (t6 : tmps.getD 6 undef = .pointer (some ⟨B6, 0, none⟩)) (t7 : tmps.getD 7 undef = .pointer (some ⟨B7, 0, none⟩))
    (hR : ∀ W3, Touch (fun x => x = B6 ∨ x = B7) W2 W3 → R (.returned (.tuple #[.agg #[.slice none 0 0, .slice none 0 0, .int .i64 0, .int .i64 0], .int .i64 290])) W3) :
    Leaves Tryd.prog fn tmps R [{ target := .fn (.func 69) #[.pointer (some ⟨B6, 0, none⟩), .pointer (some ⟨B7, 0, none⟩)], args := #[] }] (.panicking [{ v := badV, recovered := false }]) W2 := by
  refine leaves_cons (f := 69) (args := #[.pointer (some ⟨B6, 0, none⟩), .pointer (some ⟨B7, 0, none⟩)]) (by simp) (enters_plain Tryd.func69 rfl rfl _ _) ((caughtG h6 hz h7 hne).mono ?_)
  rintro e u' w' ⟨rfl, rfl, g1, g2, gT⟩
  exact ⟨_, results_cells2 hres _ _ ⟨B6, 0, none⟩ ⟨B7, 0, none⟩ (.agg #[.slice none 0 0, .slice none 0 0, .int .i64 0, .int .i64 0]) (.int .i64 290) t6 t7 (vt_graph.get rfl g1) (vt_errno.get rfl g2), hR _ gT⟩
theorem leavesG_ok {fn : Func} {tmps : Array Value} {R : Ending → World → Prop} {W2 : World} {z : Array Value} {B6 B7 : Nat} (h6 : W2.heap[B6]? = some (.cells z 55 (0, 0))) (hz : z.size = 4) (h7 : W2.heap[B7]? = some (.cells #[.int .i64 0] 26 (0, 0)))
    (hres : fn.results = #[.cell 6 55, .cell 7 26]) (t6 : tmps.getD 6 undef = .pointer (some ⟨B6, 0, none⟩)) (t7 : tmps.getD 7 undef = .pointer (some ⟨B7, 0, none⟩))
    (hR : R (.returned (.tuple #[.agg z, .int .i64 0])) W2) :
    Leaves Tryd.prog fn tmps R [{ target := .fn (.func 69) #[.pointer (some ⟨B6, 0, none⟩), .pointer (some ⟨B7, 0, none⟩)], args := #[] }] .returning W2 := by
  refine leaves_cons (f := 69) (args := #[.pointer (some ⟨B6, 0, none⟩), .pointer (some ⟨B7, 0, none⟩)]) (by simp) (enters_plain Tryd.func69 rfl rfl _ _) ((idleG _ _ _).mono ?_)
  rintro e u' w' ⟨rfl, rfl, rfl⟩
  exact ⟨_, results_cells2 hres _ _ ⟨B6, 0, none⟩ ⟨B7, 0, none⟩ (.agg z) (.int .i64 0) t6 t7 (vt_graph.get hz h6) (vt_errno.get rfl h7), hR⟩
set_option maxRecDepth 100000 in
set_option maxHeartbeats 16000000 in
theorem readG_any {α : Type} (d : Dec α) (okB : α → Bool) {w W : World} {p : Option Addr} {c : Nat} {bs : List UInt8} (hb : Below w.heap.size w W) (hrd : RdB w (.slice p bs.length c) bs) (hlb : bs.length ≤ 1000000) (X : Nat → Prop) (hX : ∀ b, X b → b < W.heap.size)
    (Jn : World → Prop) (hJn : ∀ W1 W2 : World, Jn W1 → (∀ b, b < W.heap.size → W2.heap[b]? = W1.heap[b]?) → Jn W2)
    (OK : World → α → Array Value → Prop) (hOKs : ∀ W1 x cs, OK W1 x cs → cs.size = 4 ∧ ∀ u ∈ cs.toList, u.oneCell' = true)
    (hOKk : ∀ (W1 W2 : World) x cs, OK W1 x cs → (∀ b, W.heap.size + 3 ≤ b → b < W1.heap.size → W2.heap[b]? = W1.heap[b]?) → OK W2 x cs)
    (one : ∀ W1 : World, W1.heap.size = W.heap.size + 3 → RSt 73 w W1 (W.heap.size + 2) bs → (∀ b, b < W.heap.size → W1.heap[b]? = W.heap[b]?) → Calls Tryd.prog 38 #[.pointer (some ⟨W.heap.size + 2, 0, none⟩)] W1 fun e W2 =>
      W1.heap.size ≤ W2.heap.size ∧ Below w.heap.size w W2 ∧ (∀ b, b < W1.heap.size → b ≠ W.heap.size + 2 → ¬ X b → W2.heap[b]? = W1.heap[b]?) ∧ ((d bs = none ∧ e = given ∧ ∀ b, X b → W2.heap[b]? = W1.heap[b]?) ∨ ∃ x s cs, d bs = some (x, s) ∧ e = .returned (.agg cs) ∧ OK W2 x cs ∧ RSt 73 w W2 (W.heap.size + 2) s ∧ s.length ≤ bs.length ∧ Jn W2))
    (fine : ∀ W1 x s cs, d bs = some (x, s) → OK W1 x cs → Below w.heap.size w W1 → Calls Tryd.prog 43 #[.agg cs] W1 fun e W2 => e = .returned (.bool (okB x)) ∧ Below W1.heap.size W1 W2) :
    Calls Tryd.prog 37 #[.slice p bs.length c, .func (.func 38) #[] #[], .func (.func 43) #[] #[]] W (ReadPost w W X .agg #[.slice none 0 0, .slice none 0 0, .int .i64 0, .int .i64 0] OK Jn (d bs = none) (readW d okB bs)) := by
  have zl : (bs.length : Int) ≤ 1000000 := by omega
  have hws := hb.size
  have hb1 : Below W.heap.size W (((W.alloc (.cells #[.slice none 0 0, .slice none 0 0, .int .i64 0, .int .i64 0] 55)).alloc (.cells #[.int .i64 0] 26)).alloc (.cells #[.slice p bs.length c] 73)) := ((below_new _).alloc (by simp) _).alloc (by simp; omega) _
  have p6 : (((W.alloc (.cells #[.slice none 0 0, .slice none 0 0, .int .i64 0, .int .i64 0] 55)).alloc (.cells #[.int .i64 0] 26)).alloc (.cells #[.slice p bs.length c] 73)).heap[W.heap.size]? = some (.cells #[.slice none 0 0, .slice none 0 0, .int .i64 0, .int .i64 0] 55 (0, 0)) := by
    simp only [heap_get_alloc, World.size_alloc]; rw [if_neg (by omega), if_neg (by omega), if_pos trivial]
  have p7 : (((W.alloc (.cells #[.slice none 0 0, .slice none 0 0, .int .i64 0, .int .i64 0] 55)).alloc (.cells #[.int .i64 0] 26)).alloc (.cells #[.slice p bs.length c] 73)).heap[W.heap.size + 1]? = some (.cells #[.int .i64 0] 26 (0, 0)) := by
    simp only [heap_get_alloc, World.size_alloc]; rw [if_neg (by omega), if_pos trivial]
  have p8 : (((W.alloc (.cells #[.slice none 0 0, .slice none 0 0, .int .i64 0, .int .i64 0] 55)).alloc (.cells #[.int .i64 0] 26)).alloc (.cells #[.slice p bs.length c] 73)).heap[W.heap.size + 2]? = some (.cells #[.slice p bs.length c] 73 (0, 0)) := by
    have e : W.heap.size + 2 = W.heap.size + 1 + 1 := rfl
    rw [e]; simp only [heap_get_alloc, World.size_alloc]; rw [if_pos trivial]
  have hsz : (((W.alloc (.cells #[.slice none 0 0, .slice none 0 0, .int .i64 0, .int .i64 0] 55)).alloc (.cells #[.int .i64 0] 26)).alloc (.cells #[.slice p bs.length c] 73)).heap.size = W.heap.size + 3 := by simp
  have hone := one _ hsz ⟨below_trans hb hb1, by omega, p, c, p8, hrd⟩ (fun b hbb => hb1.block b hbb)
  have HO := Lib.hid hone
  have HP := Lib.hid (And.intro hb1 (And.intro p6 (And.intro p7 hsz)))
  have HFN := Lib.hid fine
  have HOS := Lib.hid hOKs
  have HOK := Lib.hid hOKk
  have HJ := Lib.hid hJn
  have HB0 := Lib.hid hb
  clear hone hb1 p6 p7 p8 fine hOKs hOKk hJn one hrd hb
  have back : ∀ W2 W3 : World, (((W.alloc (.cells #[.slice none 0 0, .slice none 0 0, .int .i64 0, .int .i64 0] 55)).alloc (.cells #[.int .i64 0] 26)).alloc (.cells #[.slice p bs.length c] 73)).heap.size ≤ W2.heap.size → (∀ b, b < (((W.alloc (.cells #[.slice none 0 0, .slice none 0 0, .int .i64 0, .int .i64 0] 55)).alloc (.cells #[.int .i64 0] 26)).alloc (.cells #[.slice p bs.length c] 73)).heap.size → b ≠ W.heap.size + 2 → ¬ X b → W2.heap[b]? = (((W.alloc (.cells #[.slice none 0 0, .slice none 0 0, .int .i64 0, .int .i64 0] 55)).alloc (.cells #[.int .i64 0] 26)).alloc (.cells #[.slice p bs.length c] 73)).heap[b]?) →
      W2.heap.size ≤ W3.heap.size → (∀ b, b < W2.heap.size → b ≠ W.heap.size → b ≠ W.heap.size + 1 → W3.heap[b]? = W2.heap[b]?) → W.heap.size ≤ W3.heap.size ∧ ∀ b, b < W.heap.size → ¬ X b → W3.heap[b]? = W.heap[b]? := by
    intro W2 W3 h1 h2 h3 h4
    have hs := HP.out.2.2.2
    exact ⟨by omega, fun b hb1 hbx => (h4 b (by omega) (by omega) (by omega)).trans ((h2 b (by omega) (by omega) hbx).trans (HP.out.1.block b hb1))⟩
  have HBK := Lib.hid back
  clear back
  refine calls_of_wp_defers Tryd.func37 rfl ?_
  simp only [Tryd.ntmps37, List.size_toArray, List.length_cons, List.length_nil, Nat.reduceAdd, Nat.reduceSub, Array.replicate_succ, Array.replicate_zero, List.push_toArray, List.append_toArray, List.nil_append, List.cons_append]
  have hres : Tryd.f37.results = #[.cell 6 55, .cell 7 26] := rfl
  cases hd : d bs with
  | none =>
    have HRW := Lib.hid (readW_none (ok := okB) hd)
    have HD := Lib.hid hd
    clear hd
    go_wp2_with (go_at_call 38; refine HO.out.mono ?_; rintro e W2 ⟨hs2, hb2, hk2, ⟨_, rfl, hx2⟩ | ⟨x, s, cs, he, _⟩⟩; rotate_left; exact absurd he (by rw [HD.out]; simp); have H2 := Lib.hid (And.intro hs2 (And.intro hb2 (And.intro hk2 hx2))); clear hs2 hb2 hk2 hx2)
    obtain ⟨hs2, hb2, hk2, hx2⟩ := H2.out
    obtain ⟨hb1, p6, p7, hsz⟩ := HP.out
    have hs3 : W.heap.size + 3 ≤ W2.heap.size := by omega
    refine leavesG_bad (n := 0) ((hk2 _ (by omega) (by omega) (fun h => by have := hX _ h; omega)).trans p6) rfl ((hk2 _ (by omega) (by omega) (fun h => by have := hX _ h; omega)).trans p7) (by omega) hres rfl rfl fun W3 hT => ?_
    obtain ⟨g1, g2⟩ := HBK.out W2 W3 hs2 hk2 hT.size (fun b hb h6 h7 => hT.block b hb (fun h => h.elim h6 h7))
    refine ⟨hT.below hb2 (fun b hb he => by omega) (by omega), g1, g2, ?_⟩
    rw [HRW.out]
    exact ⟨rfl, fun _ b hb => (hT.block b (by have := hX b hb; omega) (by have := hX b hb; omega)).trans ((hx2 b hb).trans (hb1.block b (hX b hb)))⟩
  | some pr =>
    obtain ⟨x, s⟩ := pr
    have HD := Lib.hid hd
    clear hd
    have hND : ¬ (d bs = none) := by rw [HD.out]; simp
    have HND := Lib.hid hND
    clear hND
    have mid : ∀ W2 cs, (((W.alloc (.cells #[.slice none 0 0, .slice none 0 0, .int .i64 0, .int .i64 0] 55)).alloc (.cells #[.int .i64 0] 26)).alloc (.cells #[.slice p bs.length c] 73)).heap.size ≤ W2.heap.size → Below w.heap.size w W2 → (∀ b, b < (((W.alloc (.cells #[.slice none 0 0, .slice none 0 0, .int .i64 0, .int .i64 0] 55)).alloc (.cells #[.int .i64 0] 26)).alloc (.cells #[.slice p bs.length c] 73)).heap.size → b ≠ W.heap.size + 2 → ¬ X b → W2.heap[b]? = (((W.alloc (.cells #[.slice none 0 0, .slice none 0 0, .int .i64 0, .int .i64 0] 55)).alloc (.cells #[.int .i64 0] 26)).alloc (.cells #[.slice p bs.length c] 73)).heap[b]?) →
        OK W2 x cs → RSt 73 w W2 (W.heap.size + 2) s → Jn W2 → W2.heap[W.heap.size]? = some (.cells #[.slice none 0 0, .slice none 0 0, .int .i64 0, .int .i64 0] 55 (0, 0)) ∧ RdMid 55 w W X OK Jn x cs (W2.setRow W.heap.size cs) ∧ ∃ p' c', (W2.setRow W.heap.size cs).cell? ⟨W.heap.size + 2, 0, none⟩ = some (.slice p' s.length c') := by
      intro W2 cs hs2 hb2 hk2 hO hR hj
      obtain ⟨hb1, p6, p7, hsz⟩ := HP.out
      have h6 := (hk2 W.heap.size (by omega) (by omega) (fun h => by have := hX _ h; omega)).trans p6
      obtain ⟨p', c', hq, _⟩ := hR.box
      exact ⟨h6, RdMid.first hws hX HOK.out HJ.out (by omega) hb2 (fun b hb hx => (hk2 b (by omega) (by omega) hx).trans (hb1.block b hb)) h6 ((hk2 (W.heap.size + 1) (by omega) (by omega) (fun h => by have := hX _ h; omega)).trans p7) hO hj,
        p', c', cellOf (o := 0) ((setRow_other W2 W.heap.size (W.heap.size + 2) cs (by omega)).trans hq) rfl⟩
    have HM := Lib.hid mid
    clear mid HP
    by_cases hs : s = []
    · subst hs
      cases hok : okB x with
      | true =>
        have HRW := Lib.hid (readW_yes HD.out hok)
        have HOKB := Lib.hid hok
        clear hok
        go_wp2_with (first
          | (go_at_call 38; refine HO.out.mono ?_; rintro e W2 ⟨hs2, hb2, hk2, ⟨hn, _⟩ | ⟨x', s', cs, he, rfl, hO, hR2, hl2, hj⟩⟩; exact absurd hn HND.out; obtain ⟨rfl, rfl⟩ : x = x' ∧ [] = s' := (by have e := HD.out.symm.trans he; simpa using e); obtain ⟨hcs, hcell⟩ := HOS.out W2 x cs hO; obtain ⟨h6, hm, p', c', hq⟩ := HM.out W2 cs hs2 hb2 hk2 hO hR2 hj; have HST := Lib.hid (vt_graph.put hcs hcell h6 rfl); generalize W2.setRow W.heap.size cs = W3 at *; have HF := Lib.hid (HFN.out W3 x [] cs he hm.ok hm.b); have HL := Lib.hid (vt_graph.get hcs hm.q6); have HMID := Lib.hid hm; have HCS := Lib.hid (And.intro hcs hcell); simp only [List.length_nil] at hq; clear hs2 hb2 hk2 he hO hR2 hl2 hj hcs hcell h6 hm HO HM HFN)
          | (go_at_call 43; refine HF.out.mono ?_; rintro e W4 ⟨rfl, hB4⟩; have hm4 := HMID.out.below hws HOK.out HJ.out hB4; have HL4 := Lib.hid (vt_graph.get HCS.out.1 hm4.q6); have HS4 := Lib.hid (vt_graph.put HCS.out.1 HCS.out.2 hm4.q6 HCS.out.1); have hm5 := hm4.set6 hws HOK.out HJ.out; have HS5 := Lib.hid (vt_errno.put (c := #[.int .i64 0]) rfl (by simp [Value.oneCell']) hm5.q7 rfl); have HM6 := Lib.hid (hm5.set7 hws HOK.out HJ.out); clear hm4 hm5 hB4 HF hq HL HST; rw [HOKB.out])
          | (go_at_call 48; refine (gmust_ok _).mono ?_; rintro e W' ⟨rfl, rfl⟩)
          | ((with_reducible apply op_store); exact HST.out; exact rfl; exact rfl)
          | ((with_reducible apply op_store); exact HS4.out; exact rfl; exact rfl)
          | ((with_reducible apply op_store); exact HS5.out; exact rfl; exact rfl)
          | ((with_reducible apply op_load); exact HL4.out; exact rfl)
          | ((with_reducible apply op_loadG); exact HL.out; exact rfl; exact rfl))
        exact leavesG_ok HM6.out.q6 HCS.out.1 HM6.out.q7 hres rfl rfl (HM6.out.good HRW.out)
      | false =>
        have HRW := Lib.hid (readW_no HD.out hok)
        have HOKB := Lib.hid hok
        clear hok
        go_wp2_with (first
          | (go_at_call 38; refine HO.out.mono ?_; rintro e W2 ⟨hs2, hb2, hk2, ⟨hn, _⟩ | ⟨x', s', cs, he, rfl, hO, hR2, hl2, hj⟩⟩; exact absurd hn HND.out; obtain ⟨rfl, rfl⟩ : x = x' ∧ [] = s' := (by have e := HD.out.symm.trans he; simpa using e); obtain ⟨hcs, hcell⟩ := HOS.out W2 x cs hO; obtain ⟨h6, hm, p', c', hq⟩ := HM.out W2 cs hs2 hb2 hk2 hO hR2 hj; have HST := Lib.hid (vt_graph.put hcs hcell h6 rfl); generalize W2.setRow W.heap.size cs = W3 at *; have HF := Lib.hid (HFN.out W3 x [] cs he hm.ok hm.b); have HL := Lib.hid (vt_graph.get hcs hm.q6); have HMID := Lib.hid hm; have HCS := Lib.hid (And.intro hcs hcell); simp only [List.length_nil] at hq; clear hs2 hb2 hk2 he hO hR2 hl2 hj hcs hcell h6 hm HO HM HFN)
          | (go_at_call 43; refine HF.out.mono ?_; rintro e W4 ⟨rfl, hB4⟩; have HM4 := Lib.hid (HMID.out.below hws HOK.out HJ.out hB4); clear hB4 HF hq HL HST; rw [HOKB.out])
          | (go_at_call 48; refine (gmust_bad _).mono ?_; rintro e W' ⟨rfl, rfl⟩)
          | ((with_reducible apply op_store); exact HST.out; exact rfl; exact rfl)
          | ((with_reducible apply op_loadG); exact HL.out; exact rfl; exact rfl))
        exact leavesG_bad HM4.out.q6 HCS.out.1 HM4.out.q7 (by omega) hres rfl rfl fun W5 hT => HM4.out.bad hws hT HRW.out (by first | exact HND.out | exact fun h => h)
    · have HRW := Lib.hid (readW_left (ok := okB) HD.out hs)
      have hls : decide (((s.length : Int)) = 0) = false := by
        have : s.length ≠ 0 := fun h => hs (List.length_eq_zero_iff.1 h)
        simp only [decide_eq_false_iff_not]; omega
      have HS0 := Lib.hid hs
      clear hs
      go_wp2_with (first
        | (go_at_call 38; refine HO.out.mono ?_; rintro e W2 ⟨hs2, hb2, hk2, ⟨hn, _⟩ | ⟨x', s', cs, he, rfl, hO, hR2, hl2, hj⟩⟩; exact absurd hn HND.out; obtain ⟨rfl, rfl⟩ : x = x' ∧ s = s' := (by have e := HD.out.symm.trans he; simpa using e); obtain ⟨hcs, hcell⟩ := HOS.out W2 x cs hO; obtain ⟨h6, hm, p', c', hq⟩ := HM.out W2 cs hs2 hb2 hk2 hO hR2 hj; have HST := Lib.hid (vt_graph.put hcs hcell h6 rfl); generalize W2.setRow W.heap.size cs = W3 at *; have HMID := Lib.hid hm; have HCS := Lib.hid (And.intro hcs hcell); clear hs2 hb2 hk2 he hO hR2 hl2 hj hcs hcell h6 hm HO HM HFN)
        | (go_at_call 48; refine (gmust_bad _).mono ?_; rintro e W' ⟨rfl, rfl⟩)
        | ((with_reducible apply op_store); exact HST.out; exact rfl; exact rfl))
      exact leavesG_bad HMID.out.q6 HCS.out.1 HMID.out.q7 (by omega) hres rfl rfl fun W5 hT => HMID.out.bad hws hT HRW.out (by first | exact HND.out | exact fun h => h)
end Go.Proofs.YthdfedfholmbmaaDoor

namespace Go.Proofs.YthdfedfholmbmaaDoor
open Go.RowKit
theorem leavesV_bad {fn : Func} {tmps : Array Value} {R : Ending → World → Prop} {W2 : World} {z : Array Value} {n : Int} {B6 B7 : Nat} (h6 : W2.heap[B6]? = some (.cells z 41 (0, 0))) (hz : z.size = 6) (h7 : W2.heap[B7]? = some (.cells #[.int .i64 n] 26 (0, 0))) (hne : B6 ≠ B7)
    (hres : fn.results = #[.cell 6 41, .cell 7 26]) (t6 : tmps.getD 6 undef = .pointer (some ⟨B6, 0, none⟩)) (t7 : tmps.getD 7 undef = .pointer (some ⟨B7, 0, none⟩))
    (hR : ∀ W3, Touch (fun x => x = B6 ∨ x = B7) W2 W3 → R (.returned (.tuple #[.agg #[.int .i64 0, .bool false, .int .i64 0, .string ⟨#[]⟩, .slice none 0 0, .slice none 0 0], .int .i64 290])) W3) :
    Leaves Tryd.prog fn tmps R [{ target := .fn (.func 57) #[.pointer (some ⟨B6, 0, none⟩), .pointer (some ⟨B7, 0, none⟩)], args := #[] }] (.panicking [{ v := badV, recovered := false }]) W2 := by
  refine leaves_cons (f := 57) (args := #[.pointer (some ⟨B6, 0, none⟩), .pointer (some ⟨B7, 0, none⟩)]) (by simp) (enters_plain Tryd.func57 rfl rfl _ _) ((caughtV h6 hz h7 hne).mono ?_)
  rintro e u' w' ⟨rfl, rfl, g1, g2, gT⟩
  exact ⟨_, results_cells2 hres _ _ ⟨B6, 0, none⟩ ⟨B7, 0, none⟩ (.agg #[.int .i64 0, .bool false, .int .i64 0, .string ⟨#[]⟩, .slice none 0 0, .slice none 0 0]) (.int .i64 290) t6 t7 (vt_val.get rfl g1) (vt_errno.get rfl g2), hR _ gT⟩
theorem leavesV_ok {fn : Func} {tmps : Array Value} {R : Ending → World → Prop} {W2 : World} {z : Array Value} {B6 B7 : Nat} (h6 : W2.heap[B6]? = some (.cells z 41 (0, 0))) (hz : z.size = 6) (h7 : W2.heap[B7]? = some (.cells #[.int .i64 0] 26 (0, 0)))
    (hres : fn.results = #[.cell 6 41, .cell 7 26]) (t6 : tmps.getD 6 undef = .pointer (some ⟨B6, 0, none⟩)) (t7 : tmps.getD 7 undef = .pointer (some ⟨B7, 0, none⟩))
    (hR : R (.returned (.tuple #[.agg z, .int .i64 0])) W2) :
    Leaves Tryd.prog fn tmps R [{ target := .fn (.func 57) #[.pointer (some ⟨B6, 0, none⟩), .pointer (some ⟨B7, 0, none⟩)], args := #[] }] .returning W2 := by
  refine leaves_cons (f := 57) (args := #[.pointer (some ⟨B6, 0, none⟩), .pointer (some ⟨B7, 0, none⟩)]) (by simp) (enters_plain Tryd.func57 rfl rfl _ _) ((idleV _ _ _).mono ?_)
  rintro e u' w' ⟨rfl, rfl, rfl⟩
  exact ⟨_, results_cells2 hres _ _ ⟨B6, 0, none⟩ ⟨B7, 0, none⟩ (.agg z) (.int .i64 0) t6 t7 (vt_val.get hz h6) (vt_errno.get rfl h7), hR⟩
set_option maxRecDepth 100000 in
set_option maxHeartbeats 16000000 in
theorem readV_any {α : Type} (d : Dec α) (okB : α → Bool) {w W : World} {p : Option Addr} {c : Nat} {bs : List UInt8} (hb : Below w.heap.size w W) (hrd : RdB w (.slice p bs.length c) bs) (hlb : bs.length ≤ 1000000) (X : Nat → Prop) (hX : ∀ b, X b → b < W.heap.size)
    (Jn : World → Prop) (hJn : ∀ W1 W2 : World, Jn W1 → (∀ b, b < W.heap.size → W2.heap[b]? = W1.heap[b]?) → Jn W2)
    (OK : World → α → Array Value → Prop) (hOKs : ∀ W1 x cs, OK W1 x cs → cs.size = 6 ∧ ∀ u ∈ cs.toList, u.oneCell' = true)
    (hOKk : ∀ (W1 W2 : World) x cs, OK W1 x cs → (∀ b, W.heap.size + 3 ≤ b → b < W1.heap.size → W2.heap[b]? = W1.heap[b]?) → OK W2 x cs)
    (one : ∀ W1 : World, W1.heap.size = W.heap.size + 3 → RSt 73 w W1 (W.heap.size + 2) bs → (∀ b, b < W.heap.size → W1.heap[b]? = W.heap[b]?) → Calls Tryd.prog 28 #[.pointer (some ⟨W.heap.size + 2, 0, none⟩)] W1 fun e W2 =>
      W1.heap.size ≤ W2.heap.size ∧ Below w.heap.size w W2 ∧ (∀ b, b < W1.heap.size → b ≠ W.heap.size + 2 → ¬ X b → W2.heap[b]? = W1.heap[b]?) ∧ ((d bs = none ∧ e = given ∧ ∀ b, X b → W2.heap[b]? = W1.heap[b]?) ∨ ∃ x s cs, d bs = some (x, s) ∧ e = .returned (.agg cs) ∧ OK W2 x cs ∧ RSt 73 w W2 (W.heap.size + 2) s ∧ s.length ≤ bs.length ∧ Jn W2))
    (fine : ∀ W1 x s cs, d bs = some (x, s) → OK W1 x cs → Below w.heap.size w W1 → Calls Tryd.prog 30 #[.agg cs] W1 fun e W2 => e = .returned (.bool (okB x)) ∧ Below W1.heap.size W1 W2) :
    Calls Tryd.prog 27 #[.slice p bs.length c, .func (.func 28) #[] #[], .func (.func 30) #[] #[]] W (ReadPost w W X .agg #[.int .i64 0, .bool false, .int .i64 0, .string ⟨#[]⟩, .slice none 0 0, .slice none 0 0] OK Jn (d bs = none) (readW d okB bs)) := by
  have zl : (bs.length : Int) ≤ 1000000 := by omega
  have hws := hb.size
  have hb1 : Below W.heap.size W (((W.alloc (.cells #[.int .i64 0, .bool false, .int .i64 0, .string ⟨#[]⟩, .slice none 0 0, .slice none 0 0] 41)).alloc (.cells #[.int .i64 0] 26)).alloc (.cells #[.slice p bs.length c] 73)) := ((below_new _).alloc (by simp) _).alloc (by simp; omega) _
  have p6 : (((W.alloc (.cells #[.int .i64 0, .bool false, .int .i64 0, .string ⟨#[]⟩, .slice none 0 0, .slice none 0 0] 41)).alloc (.cells #[.int .i64 0] 26)).alloc (.cells #[.slice p bs.length c] 73)).heap[W.heap.size]? = some (.cells #[.int .i64 0, .bool false, .int .i64 0, .string ⟨#[]⟩, .slice none 0 0, .slice none 0 0] 41 (0, 0)) := by
    simp only [heap_get_alloc, World.size_alloc]; rw [if_neg (by omega), if_neg (by omega), if_pos trivial]
  have p7 : (((W.alloc (.cells #[.int .i64 0, .bool false, .int .i64 0, .string ⟨#[]⟩, .slice none 0 0, .slice none 0 0] 41)).alloc (.cells #[.int .i64 0] 26)).alloc (.cells #[.slice p bs.length c] 73)).heap[W.heap.size + 1]? = some (.cells #[.int .i64 0] 26 (0, 0)) := by
    simp only [heap_get_alloc, World.size_alloc]; rw [if_neg (by omega), if_pos trivial]
  have p8 : (((W.alloc (.cells #[.int .i64 0, .bool false, .int .i64 0, .string ⟨#[]⟩, .slice none 0 0, .slice none 0 0] 41)).alloc (.cells #[.int .i64 0] 26)).alloc (.cells #[.slice p bs.length c] 73)).heap[W.heap.size + 2]? = some (.cells #[.slice p bs.length c] 73 (0, 0)) := by
    have e : W.heap.size + 2 = W.heap.size + 1 + 1 := rfl
    rw [e]; simp only [heap_get_alloc, World.size_alloc]; rw [if_pos trivial]
  have hsz : (((W.alloc (.cells #[.int .i64 0, .bool false, .int .i64 0, .string ⟨#[]⟩, .slice none 0 0, .slice none 0 0] 41)).alloc (.cells #[.int .i64 0] 26)).alloc (.cells #[.slice p bs.length c] 73)).heap.size = W.heap.size + 3 := by simp
  have hone := one _ hsz ⟨below_trans hb hb1, by omega, p, c, p8, hrd⟩ (fun b hbb => hb1.block b hbb)
  have HO := Lib.hid hone
  have HP := Lib.hid (And.intro hb1 (And.intro p6 (And.intro p7 hsz)))
  have HFN := Lib.hid fine
  have HOS := Lib.hid hOKs
  have HOK := Lib.hid hOKk
  have HJ := Lib.hid hJn
  have HB0 := Lib.hid hb
  clear hone hb1 p6 p7 p8 fine hOKs hOKk hJn one hrd hb
  have back : ∀ W2 W3 : World, (((W.alloc (.cells #[.int .i64 0, .bool false, .int .i64 0, .string ⟨#[]⟩, .slice none 0 0, .slice none 0 0] 41)).alloc (.cells #[.int .i64 0] 26)).alloc (.cells #[.slice p bs.length c] 73)).heap.size ≤ W2.heap.size → (∀ b, b < (((W.alloc (.cells #[.int .i64 0, .bool false, .int .i64 0, .string ⟨#[]⟩, .slice none 0 0, .slice none 0 0] 41)).alloc (.cells #[.int .i64 0] 26)).alloc (.cells #[.slice p bs.length c] 73)).heap.size → b ≠ W.heap.size + 2 → ¬ X b → W2.heap[b]? = (((W.alloc (.cells #[.int .i64 0, .bool false, .int .i64 0, .string ⟨#[]⟩, .slice none 0 0, .slice none 0 0] 41)).alloc (.cells #[.int .i64 0] 26)).alloc (.cells #[.slice p bs.length c] 73)).heap[b]?) →
      W2.heap.size ≤ W3.heap.size → (∀ b, b < W2.heap.size → b ≠ W.heap.size → b ≠ W.heap.size + 1 → W3.heap[b]? = W2.heap[b]?) → W.heap.size ≤ W3.heap.size ∧ ∀ b, b < W.heap.size → ¬ X b → W3.heap[b]? = W.heap[b]? := by
    intro W2 W3 h1 h2 h3 h4
    have hs := HP.out.2.2.2
    exact ⟨by omega, fun b hb1 hbx => (h4 b (by omega) (by omega) (by omega)).trans ((h2 b (by omega) (by omega) hbx).trans (HP.out.1.block b hb1))⟩
  have HBK := Lib.hid back
  clear back
  refine calls_of_wp_defers Tryd.func27 rfl ?_
  simp only [Tryd.ntmps27, List.size_toArray, List.length_cons, List.length_nil, Nat.reduceAdd, Nat.reduceSub, Array.replicate_succ, Array.replicate_zero, List.push_toArray, List.append_toArray, List.nil_append, List.cons_append]
  have hres : Tryd.f27.results = #[.cell 6 41, .cell 7 26] := rfl
  cases hd : d bs with
  | none =>
    have HRW := Lib.hid (readW_none (ok := okB) hd)
    have HD := Lib.hid hd
    clear hd
    go_wp2_with (go_at_call 28; refine HO.out.mono ?_; rintro e W2 ⟨hs2, hb2, hk2, ⟨_, rfl, hx2⟩ | ⟨x, s, cs, he, _⟩⟩; rotate_left; exact absurd he (by rw [HD.out]; simp); have H2 := Lib.hid (And.intro hs2 (And.intro hb2 (And.intro hk2 hx2))); clear hs2 hb2 hk2 hx2)
    obtain ⟨hs2, hb2, hk2, hx2⟩ := H2.out
    obtain ⟨hb1, p6, p7, hsz⟩ := HP.out
    have hs3 : W.heap.size + 3 ≤ W2.heap.size := by omega
    refine leavesV_bad (n := 0) ((hk2 _ (by omega) (by omega) (fun h => by have := hX _ h; omega)).trans p6) rfl ((hk2 _ (by omega) (by omega) (fun h => by have := hX _ h; omega)).trans p7) (by omega) hres rfl rfl fun W3 hT => ?_
    obtain ⟨g1, g2⟩ := HBK.out W2 W3 hs2 hk2 hT.size (fun b hb h6 h7 => hT.block b hb (fun h => h.elim h6 h7))
    refine ⟨hT.below hb2 (fun b hb he => by omega) (by omega), g1, g2, ?_⟩
    rw [HRW.out]
    exact ⟨rfl, fun _ b hb => (hT.block b (by have := hX b hb; omega) (by have := hX b hb; omega)).trans ((hx2 b hb).trans (hb1.block b (hX b hb)))⟩
  | some pr =>
    obtain ⟨x, s⟩ := pr
    have HD := Lib.hid hd
    clear hd
    have hND : ¬ (d bs = none) := by rw [HD.out]; simp
    have HND := Lib.hid hND
    clear hND
    have mid : ∀ W2 cs, (((W.alloc (.cells #[.int .i64 0, .bool false, .int .i64 0, .string ⟨#[]⟩, .slice none 0 0, .slice none 0 0] 41)).alloc (.cells #[.int .i64 0] 26)).alloc (.cells #[.slice p bs.length c] 73)).heap.size ≤ W2.heap.size → Below w.heap.size w W2 → (∀ b, b < (((W.alloc (.cells #[.int .i64 0, .bool false, .int .i64 0, .string ⟨#[]⟩, .slice none 0 0, .slice none 0 0] 41)).alloc (.cells #[.int .i64 0] 26)).alloc (.cells #[.slice p bs.length c] 73)).heap.size → b ≠ W.heap.size + 2 → ¬ X b → W2.heap[b]? = (((W.alloc (.cells #[.int .i64 0, .bool false, .int .i64 0, .string ⟨#[]⟩, .slice none 0 0, .slice none 0 0] 41)).alloc (.cells #[.int .i64 0] 26)).alloc (.cells #[.slice p bs.length c] 73)).heap[b]?) →
        OK W2 x cs → RSt 73 w W2 (W.heap.size + 2) s → Jn W2 → W2.heap[W.heap.size]? = some (.cells #[.int .i64 0, .bool false, .int .i64 0, .string ⟨#[]⟩, .slice none 0 0, .slice none 0 0] 41 (0, 0)) ∧ RdMid 41 w W X OK Jn x cs (W2.setRow W.heap.size cs) ∧ ∃ p' c', (W2.setRow W.heap.size cs).cell? ⟨W.heap.size + 2, 0, none⟩ = some (.slice p' s.length c') := by
      intro W2 cs hs2 hb2 hk2 hO hR hj
      obtain ⟨hb1, p6, p7, hsz⟩ := HP.out
      have h6 := (hk2 W.heap.size (by omega) (by omega) (fun h => by have := hX _ h; omega)).trans p6
      obtain ⟨p', c', hq, _⟩ := hR.box
      exact ⟨h6, RdMid.first hws hX HOK.out HJ.out (by omega) hb2 (fun b hb hx => (hk2 b (by omega) (by omega) hx).trans (hb1.block b hb)) h6 ((hk2 (W.heap.size + 1) (by omega) (by omega) (fun h => by have := hX _ h; omega)).trans p7) hO hj,
        p', c', cellOf (o := 0) ((setRow_other W2 W.heap.size (W.heap.size + 2) cs (by omega)).trans hq) rfl⟩
    have HM := Lib.hid mid
    clear mid HP
    by_cases hs : s = []
    · subst hs
      cases hok : okB x with
      | true =>
        have HRW := Lib.hid (readW_yes HD.out hok)
        have HOKB := Lib.hid hok
        clear hok
        go_wp2_with (first
          | (go_at_call 28; refine HO.out.mono ?_; rintro e W2 ⟨hs2, hb2, hk2, ⟨hn, _⟩ | ⟨x', s', cs, he, rfl, hO, hR2, hl2, hj⟩⟩; exact absurd hn HND.out; obtain ⟨rfl, rfl⟩ : x = x' ∧ [] = s' := (by have e := HD.out.symm.trans he; simpa using e); obtain ⟨hcs, hcell⟩ := HOS.out W2 x cs hO; obtain ⟨h6, hm, p', c', hq⟩ := HM.out W2 cs hs2 hb2 hk2 hO hR2 hj; have HST := Lib.hid (vt_val.put hcs hcell h6 rfl); generalize W2.setRow W.heap.size cs = W3 at *; have HF := Lib.hid (HFN.out W3 x [] cs he hm.ok hm.b); have HL := Lib.hid (vt_val.get hcs hm.q6); have HMID := Lib.hid hm; have HCS := Lib.hid (And.intro hcs hcell); simp only [List.length_nil] at hq; clear hs2 hb2 hk2 he hO hR2 hl2 hj hcs hcell h6 hm HO HM HFN)
          | (go_at_call 30; refine HF.out.mono ?_; rintro e W4 ⟨rfl, hB4⟩; have hm4 := HMID.out.below hws HOK.out HJ.out hB4; have HL4 := Lib.hid (vt_val.get HCS.out.1 hm4.q6); have HS4 := Lib.hid (vt_val.put HCS.out.1 HCS.out.2 hm4.q6 HCS.out.1); have hm5 := hm4.set6 hws HOK.out HJ.out; have HS5 := Lib.hid (vt_errno.put (c := #[.int .i64 0]) rfl (by simp [Value.oneCell']) hm5.q7 rfl); have HM6 := Lib.hid (hm5.set7 hws HOK.out HJ.out); clear hm4 hm5 hB4 HF hq HL HST; rw [HOKB.out])
          | (go_at_call 48; refine (gmust_ok _).mono ?_; rintro e W' ⟨rfl, rfl⟩)
          | ((with_reducible apply op_store); exact HST.out; exact rfl; exact rfl)
          | ((with_reducible apply op_store); exact HS4.out; exact rfl; exact rfl)
          | ((with_reducible apply op_store); exact HS5.out; exact rfl; exact rfl)
          | ((with_reducible apply op_load); exact HL4.out; exact rfl)
          | ((with_reducible apply op_loadG); exact HL.out; exact rfl; exact rfl))
        exact leavesV_ok HM6.out.q6 HCS.out.1 HM6.out.q7 hres rfl rfl (HM6.out.good HRW.out)
      | false =>
        have HRW := Lib.hid (readW_no HD.out hok)
        have HOKB := Lib.hid hok
        clear hok
        go_wp2_with (first
          | (go_at_call 28; refine HO.out.mono ?_; rintro e W2 ⟨hs2, hb2, hk2, ⟨hn, _⟩ | ⟨x', s', cs, he, rfl, hO, hR2, hl2, hj⟩⟩; exact absurd hn HND.out; obtain ⟨rfl, rfl⟩ : x = x' ∧ [] = s' := (by have e := HD.out.symm.trans he; simpa using e); obtain ⟨hcs, hcell⟩ := HOS.out W2 x cs hO; obtain ⟨h6, hm, p', c', hq⟩ := HM.out W2 cs hs2 hb2 hk2 hO hR2 hj; have HST := Lib.hid (vt_val.put hcs hcell h6 rfl); generalize W2.setRow W.heap.size cs = W3 at *; have HF := Lib.hid (HFN.out W3 x [] cs he hm.ok hm.b); have HL := Lib.hid (vt_val.get hcs hm.q6); have HMID := Lib.hid hm; have HCS := Lib.hid (And.intro hcs hcell); simp only [List.length_nil] at hq; clear hs2 hb2 hk2 he hO hR2 hl2 hj hcs hcell h6 hm HO HM HFN)
          | (go_at_call 30; refine HF.out.mono ?_; rintro e W4 ⟨rfl, hB4⟩; have HM4 := Lib.hid (HMID.out.below hws HOK.out HJ.out hB4); clear hB4 HF hq HL HST; rw [HOKB.out])
          | (go_at_call 48; refine (gmust_bad _).mono ?_; rintro e W' ⟨rfl, rfl⟩)
          | ((with_reducible apply op_store); exact HST.out; exact rfl; exact rfl)
          | ((with_reducible apply op_loadG); exact HL.out; exact rfl; exact rfl))
        exact leavesV_bad HM4.out.q6 HCS.out.1 HM4.out.q7 (by omega) hres rfl rfl fun W5 hT => HM4.out.bad hws hT HRW.out (by first | exact HND.out | exact fun h => h)
    · have HRW := Lib.hid (readW_left (ok := okB) HD.out hs)
      have hls : decide (((s.length : Int)) = 0) = false := by
        have : s.length ≠ 0 := fun h => hs (List.length_eq_zero_iff.1 h)
        simp only [decide_eq_false_iff_not]; omega
      have HS0 := Lib.hid hs
      clear hs
      go_wp2_with (first
        | (go_at_call 28; refine HO.out.mono ?_; rintro e W2 ⟨hs2, hb2, hk2, ⟨hn, _⟩ | ⟨x', s', cs, he, rfl, hO, hR2, hl2, hj⟩⟩; exact absurd hn HND.out; obtain ⟨rfl, rfl⟩ : x = x' ∧ s = s' := (by have e := HD.out.symm.trans he; simpa using e); obtain ⟨hcs, hcell⟩ := HOS.out W2 x cs hO; obtain ⟨h6, hm, p', c', hq⟩ := HM.out W2 cs hs2 hb2 hk2 hO hR2 hj; have HST := Lib.hid (vt_val.put hcs hcell h6 rfl); generalize W2.setRow W.heap.size cs = W3 at *; have HMID := Lib.hid hm; have HCS := Lib.hid (And.intro hcs hcell); clear hs2 hb2 hk2 he hO hR2 hl2 hj hcs hcell h6 hm HO HM HFN)
        | (go_at_call 48; refine (gmust_bad _).mono ?_; rintro e W' ⟨rfl, rfl⟩)
        | ((with_reducible apply op_store); exact HST.out; exact rfl; exact rfl))
      exact leavesV_bad HMID.out.q6 HCS.out.1 HMID.out.q7 (by omega) hres rfl rfl fun W5 hT => HMID.out.bad hws hT HRW.out (by first | exact HND.out | exact fun h => h)
end Go.Proofs.YthdfedfholmbmaaDoor

namespace Go.Proofs.YthdfedfholmbmaaDoor
open Go.RowKit
theorem leavesN_bad {fn : Func} {tmps : Array Value} {R : Ending → World → Prop} {W2 : World} {z : Array Value} {n : Int} {B6 B7 : Nat} (h6 : W2.heap[B6]? = some (.cells z 22 (0, 0))) (hz : z.size = 1) (h7 : W2.heap[B7]? = some (.cells #[.int .i64 n] 26 (0, 0))) (hne : B6 ≠ B7)
    (hres : fn.results = #[.cell 6 22, .cell 7 26]) (t6 : tmps.getD 6 undef = .pointer (some ⟨B6, 0, none⟩)) (t7 : tmps.getD 7 undef = .pointer (some ⟨B7, 0, none⟩))
    (hR : ∀ W3, Touch (fun x => x = B6 ∨ x = B7) W2 W3 → R (.returned (.tuple #[mk1 #[.int .u64 0], .int .i64 290])) W3) :
    Leaves Tryd.prog fn tmps R [{ target := .fn (.func 47) #[.pointer (some ⟨B6, 0, none⟩), .pointer (some ⟨B7, 0, none⟩)], args := #[] }] (.panicking [{ v := badV, recovered := false }]) W2 := by
  refine leaves_cons (f := 47) (args := #[.pointer (some ⟨B6, 0, none⟩), .pointer (some ⟨B7, 0, none⟩)]) (by simp) (enters_plain Tryd.func47 rfl rfl _ _) ((caughtN h6 hz h7 hne).mono ?_)
  rintro e u' w' ⟨rfl, rfl, g1, g2, gT⟩
  exact ⟨_, results_cells2 hres _ _ ⟨B6, 0, none⟩ ⟨B7, 0, none⟩ (mk1 #[.int .u64 0]) (.int .i64 290) t6 t7 (vt_u64.get rfl g1) (vt_errno.get rfl g2), hR _ gT⟩
theorem leavesN_ok {fn : Func} {tmps : Array Value} {R : Ending → World → Prop} {W2 : World} {z : Array Value} {B6 B7 : Nat} (h6 : W2.heap[B6]? = some (.cells z 22 (0, 0))) (hz : z.size = 1) (h7 : W2.heap[B7]? = some (.cells #[.int .i64 0] 26 (0, 0)))
    (hres : fn.results = #[.cell 6 22, .cell 7 26]) (t6 : tmps.getD 6 undef = .pointer (some ⟨B6, 0, none⟩)) (t7 : tmps.getD 7 undef = .pointer (some ⟨B7, 0, none⟩))
    (hR : R (.returned (.tuple #[mk1 z, .int .i64 0])) W2) :
    Leaves Tryd.prog fn tmps R [{ target := .fn (.func 47) #[.pointer (some ⟨B6, 0, none⟩), .pointer (some ⟨B7, 0, none⟩)], args := #[] }] .returning W2 := by
  refine leaves_cons (f := 47) (args := #[.pointer (some ⟨B6, 0, none⟩), .pointer (some ⟨B7, 0, none⟩)]) (by simp) (enters_plain Tryd.func47 rfl rfl _ _) ((idleN _ _ _).mono ?_)
  rintro e u' w' ⟨rfl, rfl, rfl⟩
  exact ⟨_, results_cells2 hres _ _ ⟨B6, 0, none⟩ ⟨B7, 0, none⟩ (mk1 z) (.int .i64 0) t6 t7 (vt_u64.get hz h6) (vt_errno.get rfl h7), hR⟩
set_option maxRecDepth 100000 in
set_option maxHeartbeats 16000000 in
theorem readN_any {α : Type} (d : Dec α) (okB : α → Bool) {w W : World} {p : Option Addr} {c : Nat} {bs : List UInt8} {a1 a2 : Option Addr} (hb : Below w.heap.size w W) (hrd : RdB w (.slice p bs.length c) bs) (hlb : bs.length ≤ 1000000) (X : Nat → Prop) (hX : ∀ b, X b → b < W.heap.size)
    (Jn : World → Prop) (hJn : ∀ W1 W2 : World, Jn W1 → (∀ b, b < W.heap.size → W2.heap[b]? = W1.heap[b]?) → Jn W2)
    (OK : World → α → Array Value → Prop) (hOKs : ∀ W1 x cs, OK W1 x cs → cs.size = 1 ∧ ∀ u ∈ cs.toList, u.oneCell' = true)
    (hOKk : ∀ (W1 W2 : World) x cs, OK W1 x cs → (∀ b, W.heap.size + 3 ≤ b → b < W1.heap.size → W2.heap[b]? = W1.heap[b]?) → OK W2 x cs)
    (one : ∀ W1 : World, W1.heap.size = W.heap.size + 3 → RSt 73 w W1 (W.heap.size + 2) bs → (∀ b, b < W.heap.size → W1.heap[b]? = W.heap[b]?) → Calls Tryd.prog 21 #[.pointer (some ⟨W.heap.size + 2, 0, none⟩), .pointer a1, .pointer a2] W1 fun e W2 =>
      W1.heap.size ≤ W2.heap.size ∧ Below w.heap.size w W2 ∧ (∀ b, b < W1.heap.size → b ≠ W.heap.size + 2 → ¬ X b → W2.heap[b]? = W1.heap[b]?) ∧ ((d bs = none ∧ e = given ∧ ∀ b, X b → W2.heap[b]? = W1.heap[b]?) ∨ ∃ x s cs, d bs = some (x, s) ∧ e = .returned (mk1 cs) ∧ OK W2 x cs ∧ RSt 73 w W2 (W.heap.size + 2) s ∧ s.length ≤ bs.length ∧ Jn W2))
    (fine : ∀ W1 x s cs, d bs = some (x, s) → OK W1 x cs → Below w.heap.size w W1 → Calls Tryd.prog 23 #[mk1 cs] W1 fun e W2 => e = .returned (.bool (okB x)) ∧ Below W1.heap.size W1 W2) :
    Calls Tryd.prog 20 #[.slice p bs.length c, .func (.func 21) #[] #[.pointer a1, .pointer a2], .func (.func 23) #[] #[]] W (ReadPost w W X mk1 #[.int .u64 0] OK Jn (d bs = none) (readW d okB bs)) := by
  have zl : (bs.length : Int) ≤ 1000000 := by omega
  have hws := hb.size
  have hb1 : Below W.heap.size W (((W.alloc (.cells #[.int .u64 0] 22)).alloc (.cells #[.int .i64 0] 26)).alloc (.cells #[.slice p bs.length c] 73)) := ((below_new _).alloc (by simp) _).alloc (by simp; omega) _
  have p6 : (((W.alloc (.cells #[.int .u64 0] 22)).alloc (.cells #[.int .i64 0] 26)).alloc (.cells #[.slice p bs.length c] 73)).heap[W.heap.size]? = some (.cells #[.int .u64 0] 22 (0, 0)) := by
    simp only [heap_get_alloc, World.size_alloc]; rw [if_neg (by omega), if_neg (by omega), if_pos trivial]
  have p7 : (((W.alloc (.cells #[.int .u64 0] 22)).alloc (.cells #[.int .i64 0] 26)).alloc (.cells #[.slice p bs.length c] 73)).heap[W.heap.size + 1]? = some (.cells #[.int .i64 0] 26 (0, 0)) := by
    simp only [heap_get_alloc, World.size_alloc]; rw [if_neg (by omega), if_pos trivial]
  have p8 : (((W.alloc (.cells #[.int .u64 0] 22)).alloc (.cells #[.int .i64 0] 26)).alloc (.cells #[.slice p bs.length c] 73)).heap[W.heap.size + 2]? = some (.cells #[.slice p bs.length c] 73 (0, 0)) := by
    have e : W.heap.size + 2 = W.heap.size + 1 + 1 := rfl
    rw [e]; simp only [heap_get_alloc, World.size_alloc]; rw [if_pos trivial]
  have hsz : (((W.alloc (.cells #[.int .u64 0] 22)).alloc (.cells #[.int .i64 0] 26)).alloc (.cells #[.slice p bs.length c] 73)).heap.size = W.heap.size + 3 := by simp
  have hone := one _ hsz ⟨below_trans hb hb1, by omega, p, c, p8, hrd⟩ (fun b hbb => hb1.block b hbb)
  have HO := Lib.hid hone
  have HP := Lib.hid (And.intro hb1 (And.intro p6 (And.intro p7 hsz)))
  have HFN := Lib.hid fine
  have HOS := Lib.hid hOKs
  have HOK := Lib.hid hOKk
  have HJ := Lib.hid hJn
  have HB0 := Lib.hid hb
  clear hone hb1 p6 p7 p8 fine hOKs hOKk hJn one hrd hb
  have back : ∀ W2 W3 : World, (((W.alloc (.cells #[.int .u64 0] 22)).alloc (.cells #[.int .i64 0] 26)).alloc (.cells #[.slice p bs.length c] 73)).heap.size ≤ W2.heap.size → (∀ b, b < (((W.alloc (.cells #[.int .u64 0] 22)).alloc (.cells #[.int .i64 0] 26)).alloc (.cells #[.slice p bs.length c] 73)).heap.size → b ≠ W.heap.size + 2 → ¬ X b → W2.heap[b]? = (((W.alloc (.cells #[.int .u64 0] 22)).alloc (.cells #[.int .i64 0] 26)).alloc (.cells #[.slice p bs.length c] 73)).heap[b]?) →
      W2.heap.size ≤ W3.heap.size → (∀ b, b < W2.heap.size → b ≠ W.heap.size → b ≠ W.heap.size + 1 → W3.heap[b]? = W2.heap[b]?) → W.heap.size ≤ W3.heap.size ∧ ∀ b, b < W.heap.size → ¬ X b → W3.heap[b]? = W.heap[b]? := by
    intro W2 W3 h1 h2 h3 h4
    have hs := HP.out.2.2.2
    exact ⟨by omega, fun b hb1 hbx => (h4 b (by omega) (by omega) (by omega)).trans ((h2 b (by omega) (by omega) hbx).trans (HP.out.1.block b hb1))⟩
  have HBK := Lib.hid back
  clear back
  refine calls_of_wp_defers Tryd.func20 rfl ?_
  simp only [Tryd.ntmps20, List.size_toArray, List.length_cons, List.length_nil, Nat.reduceAdd, Nat.reduceSub, Array.replicate_succ, Array.replicate_zero, List.push_toArray, List.append_toArray, List.nil_append, List.cons_append]
  have hres : Tryd.f20.results = #[.cell 6 22, .cell 7 26] := rfl
  cases hd : d bs with
  | none =>
    have HRW := Lib.hid (readW_none (ok := okB) hd)
    have HD := Lib.hid hd
    clear hd
    go_wp2_with (go_at_call 21; refine HO.out.mono ?_; rintro e W2 ⟨hs2, hb2, hk2, ⟨_, rfl, hx2⟩ | ⟨x, s, cs, he, _⟩⟩; rotate_left; exact absurd he (by rw [HD.out]; simp); have H2 := Lib.hid (And.intro hs2 (And.intro hb2 (And.intro hk2 hx2))); clear hs2 hb2 hk2 hx2)
    obtain ⟨hs2, hb2, hk2, hx2⟩ := H2.out
    obtain ⟨hb1, p6, p7, hsz⟩ := HP.out
    have hs3 : W.heap.size + 3 ≤ W2.heap.size := by omega
    refine leavesN_bad (n := 0) ((hk2 _ (by omega) (by omega) (fun h => by have := hX _ h; omega)).trans p6) rfl ((hk2 _ (by omega) (by omega) (fun h => by have := hX _ h; omega)).trans p7) (by omega) hres rfl rfl fun W3 hT => ?_
    obtain ⟨g1, g2⟩ := HBK.out W2 W3 hs2 hk2 hT.size (fun b hb h6 h7 => hT.block b hb (fun h => h.elim h6 h7))
    refine ⟨hT.below hb2 (fun b hb he => by omega) (by omega), g1, g2, ?_⟩
    rw [HRW.out]
    exact ⟨rfl, fun _ b hb => (hT.block b (by have := hX b hb; omega) (by have := hX b hb; omega)).trans ((hx2 b hb).trans (hb1.block b (hX b hb)))⟩
  | some pr =>
    obtain ⟨x, s⟩ := pr
    have HD := Lib.hid hd
    clear hd
    have hND : ¬ (d bs = none) := by rw [HD.out]; simp
    have HND := Lib.hid hND
    clear hND
    have mid : ∀ W2 cs, (((W.alloc (.cells #[.int .u64 0] 22)).alloc (.cells #[.int .i64 0] 26)).alloc (.cells #[.slice p bs.length c] 73)).heap.size ≤ W2.heap.size → Below w.heap.size w W2 → (∀ b, b < (((W.alloc (.cells #[.int .u64 0] 22)).alloc (.cells #[.int .i64 0] 26)).alloc (.cells #[.slice p bs.length c] 73)).heap.size → b ≠ W.heap.size + 2 → ¬ X b → W2.heap[b]? = (((W.alloc (.cells #[.int .u64 0] 22)).alloc (.cells #[.int .i64 0] 26)).alloc (.cells #[.slice p bs.length c] 73)).heap[b]?) →
        OK W2 x cs → RSt 73 w W2 (W.heap.size + 2) s → Jn W2 → W2.heap[W.heap.size]? = some (.cells #[.int .u64 0] 22 (0, 0)) ∧ RdMid 22 w W X OK Jn x cs (W2.setRow W.heap.size cs) ∧ ∃ p' c', (W2.setRow W.heap.size cs).cell? ⟨W.heap.size + 2, 0, none⟩ = some (.slice p' s.length c') := by
      intro W2 cs hs2 hb2 hk2 hO hR hj
      obtain ⟨hb1, p6, p7, hsz⟩ := HP.out
      have h6 := (hk2 W.heap.size (by omega) (by omega) (fun h => by have := hX _ h; omega)).trans p6
      obtain ⟨p', c', hq, _⟩ := hR.box
      exact ⟨h6, RdMid.first hws hX HOK.out HJ.out (by omega) hb2 (fun b hb hx => (hk2 b (by omega) (by omega) hx).trans (hb1.block b hb)) h6 ((hk2 (W.heap.size + 1) (by omega) (by omega) (fun h => by have := hX _ h; omega)).trans p7) hO hj,
        p', c', cellOf (o := 0) ((setRow_other W2 W.heap.size (W.heap.size + 2) cs (by omega)).trans hq) rfl⟩
    have HM := Lib.hid mid
    clear mid HP
    by_cases hs : s = []
    · subst hs
      cases hok : okB x with
      | true =>
        have HRW := Lib.hid (readW_yes HD.out hok)
        have HOKB := Lib.hid hok
        clear hok
        go_wp2_with (first
          | (go_at_call 21; refine HO.out.mono ?_; rintro e W2 ⟨hs2, hb2, hk2, ⟨hn, _⟩ | ⟨x', s', cs, he, rfl, hO, hR2, hl2, hj⟩⟩; exact absurd hn HND.out; obtain ⟨rfl, rfl⟩ : x = x' ∧ [] = s' := (by have e := HD.out.symm.trans he; simpa using e); obtain ⟨hcs, hcell⟩ := HOS.out W2 x cs hO; obtain ⟨h6, hm, p', c', hq⟩ := HM.out W2 cs hs2 hb2 hk2 hO hR2 hj; have HST := Lib.hid (vt_u64.put hcs hcell h6 rfl); generalize W2.setRow W.heap.size cs = W3 at *; have HF := Lib.hid (HFN.out W3 x [] cs he hm.ok hm.b); have HL := Lib.hid (vt_u64.get hcs hm.q6); have HMID := Lib.hid hm; have HCS := Lib.hid (And.intro hcs hcell); simp only [List.length_nil] at hq; clear hs2 hb2 hk2 he hO hR2 hl2 hj hcs hcell h6 hm HO HM HFN)
          | (go_at_call 23; refine HF.out.mono ?_; rintro e W4 ⟨rfl, hB4⟩; have hm4 := HMID.out.below hws HOK.out HJ.out hB4; have HL4 := Lib.hid (vt_u64.get HCS.out.1 hm4.q6); have HS4 := Lib.hid (vt_u64.put HCS.out.1 HCS.out.2 hm4.q6 HCS.out.1); have hm5 := hm4.set6 hws HOK.out HJ.out; have HS5 := Lib.hid (vt_errno.put (c := #[.int .i64 0]) rfl (by simp [Value.oneCell']) hm5.q7 rfl); have HM6 := Lib.hid (hm5.set7 hws HOK.out HJ.out); clear hm4 hm5 hB4 HF hq HL HST; rw [HOKB.out])
          | (go_at_call 48; refine (gmust_ok _).mono ?_; rintro e W' ⟨rfl, rfl⟩)
          | ((with_reducible apply op_store); exact HST.out; exact rfl; exact rfl)
          | ((with_reducible apply op_store); exact HS4.out; exact rfl; exact rfl)
          | ((with_reducible apply op_store); exact HS5.out; exact rfl; exact rfl)
          | ((with_reducible apply op_load); exact HL4.out; exact rfl)
          | ((with_reducible apply op_loadG); exact HL.out; exact rfl; exact rfl))
        exact leavesN_ok HM6.out.q6 HCS.out.1 HM6.out.q7 hres rfl rfl (HM6.out.good HRW.out)
      | false =>
        have HRW := Lib.hid (readW_no HD.out hok)
        have HOKB := Lib.hid hok
        clear hok
        go_wp2_with (first
          | (go_at_call 21; refine HO.out.mono ?_; rintro e W2 ⟨hs2, hb2, hk2, ⟨hn, _⟩ | ⟨x', s', cs, he, rfl, hO, hR2, hl2, hj⟩⟩; exact absurd hn HND.out; obtain ⟨rfl, rfl⟩ : x = x' ∧ [] = s' := (by have e := HD.out.symm.trans he; simpa using e); obtain ⟨hcs, hcell⟩ := HOS.out W2 x cs hO; obtain ⟨h6, hm, p', c', hq⟩ := HM.out W2 cs hs2 hb2 hk2 hO hR2 hj; have HST := Lib.hid (vt_u64.put hcs hcell h6 rfl); generalize W2.setRow W.heap.size cs = W3 at *; have HF := Lib.hid (HFN.out W3 x [] cs he hm.ok hm.b); have HL := Lib.hid (vt_u64.get hcs hm.q6); have HMID := Lib.hid hm; have HCS := Lib.hid (And.intro hcs hcell); simp only [List.length_nil] at hq; clear hs2 hb2 hk2 he hO hR2 hl2 hj hcs hcell h6 hm HO HM HFN)
          | (go_at_call 23; refine HF.out.mono ?_; rintro e W4 ⟨rfl, hB4⟩; have HM4 := Lib.hid (HMID.out.below hws HOK.out HJ.out hB4); clear hB4 HF hq HL HST; rw [HOKB.out])
          | (go_at_call 48; refine (gmust_bad _).mono ?_; rintro e W' ⟨rfl, rfl⟩)
          | ((with_reducible apply op_store); exact HST.out; exact rfl; exact rfl)
          | ((with_reducible apply op_loadG); exact HL.out; exact rfl; exact rfl))
        exact leavesN_bad HM4.out.q6 HCS.out.1 HM4.out.q7 (by omega) hres rfl rfl fun W5 hT => HM4.out.bad hws hT HRW.out (by first | exact HND.out | exact fun h => h)
    · have HRW := Lib.hid (readW_left (ok := okB) HD.out hs)
      have hls : decide (((s.length : Int)) = 0) = false := by
        have : s.length ≠ 0 := fun h => hs (List.length_eq_zero_iff.1 h)
        simp only [decide_eq_false_iff_not]; omega
      have HS0 := Lib.hid hs
      clear hs
      go_wp2_with (first
        | (go_at_call 21; refine HO.out.mono ?_; rintro e W2 ⟨hs2, hb2, hk2, ⟨hn, _⟩ | ⟨x', s', cs, he, rfl, hO, hR2, hl2, hj⟩⟩; exact absurd hn HND.out; obtain ⟨rfl, rfl⟩ : x = x' ∧ s = s' := (by have e := HD.out.symm.trans he; simpa using e); obtain ⟨hcs, hcell⟩ := HOS.out W2 x cs hO; obtain ⟨h6, hm, p', c', hq⟩ := HM.out W2 cs hs2 hb2 hk2 hO hR2 hj; have HST := Lib.hid (vt_u64.put hcs hcell h6 rfl); generalize W2.setRow W.heap.size cs = W3 at *; have HMID := Lib.hid hm; have HCS := Lib.hid (And.intro hcs hcell); clear hs2 hb2 hk2 he hO hR2 hl2 hj hcs hcell h6 hm HO HM HFN)
        | (go_at_call 48; refine (gmust_bad _).mono ?_; rintro e W' ⟨rfl, rfl⟩)
        | ((with_reducible apply op_store); exact HST.out; exact rfl; exact rfl))
      exact leavesN_bad HMID.out.q6 HCS.out.1 HMID.out.q7 (by omega) hres rfl rfl fun W5 hT => HMID.out.bad hws hT HRW.out (by first | exact HND.out | exact fun h => h)
end Go.Proofs.YthdfedfholmbmaaDoor

namespace Go.Proofs.YthdfedfholmbmaaDoor
open Go.RowKit
theorem tot_of {α : Type} {d : Dec α} {e : α → List UInt8} {P : α → Prop} {f : Rs → α × Rs} {sz : α → Nat} {R : α → Prop} (h : RT d e P) (g : DF f e P) (s : DS f sz R) {b r : List UInt8} {x : α} (hd : d b = some (x, r)) : sz x + r.length ≤ b.length ∧ R x := by
  obtain ⟨h1, h2⟩ := h.sound _ _ _ hd
  have h3 := g x r h2
  rw [← h1] at h3
  have h4 := s.size (b, false) (by rw [h3])
  have h5 := s.rng (b, false)
  rw [h3] at h4 h5
  exact ⟨h4, h5⟩
def errR {α : Type} (o : Option α) : Int := match o with
  | some _ => 0
  | none => 290
theorem results_cell_tmp2 {P : Program} {fn : Func} {p u : Tmp} {ty : TypeId} (h : fn.results = #[.cell p ty, .tmp u]) (tmps : Array Value) (w : World) (ad : Addr) (v : Value)
    (hp : tmps.getD p undef = .pointer (some ad)) (hl : (loadVar ty ad).run P w = .ok v w) : (results fn tmps).run P w = .ok (.tuple #[v, tmps.getD u undef]) w := by
  have hp' : tmps[p]?.getD undef = .pointer (some ad) := by simpa using hp
  simp [results, h, hp', asAddr, hl]
theorem one_of {α : Type} {d : Dec α} {w W1 W2 : World} {q : Nat} {bs : List UInt8} {n : Nat} {E : World → (Nat → Prop) → α → Array Value → Prop} {K : Nat} (hE : EL E K) (hn : W1.heap.size = n + 3) (hle : ∀ l' x s, d l' = some (x, s) → s.length ≤ l'.length) {e : Ending}
    (h : Reads w W1 q (d bs) (fun x v W' => ∃ cs, v = .agg cs ∧ E W' (fun b => W1.heap.size ≤ b) x cs) e W2) : W1.heap.size ≤ W2.heap.size ∧ Below w.heap.size w W2 ∧ (∀ b, b < W1.heap.size → b ≠ q → ¬ (fun _ => False : Nat → Prop) b → W2.heap[b]? = W1.heap[b]?) ∧
      ((d bs = none ∧ e = given ∧ ∀ b, (fun _ => False : Nat → Prop) b → W2.heap[b]? = W1.heap[b]?) ∨ ∃ x s cs, d bs = some (x, s) ∧ e = .returned (.agg cs) ∧ E W2 (fun b => n + 3 ≤ b) x cs ∧ RSt 73 w W2 q s ∧ s.length ≤ bs.length ∧ True) := by
  cases hd : d bs with
  | none =>
    rw [hd] at h
    obtain ⟨t, hb, rfl⟩ := h.none
    exact ⟨t.size, hb, fun b h1 h2 _ => t.keep b h1 h2, .inl ⟨rfl, rfl, fun b hb => hb.elim⟩⟩
  | some p =>
    obtain ⟨x, s⟩ := p
    rw [hd] at h
    obtain ⟨t, hb, v, rfl, ⟨cs, rfl, how⟩, hs⟩ := h.some
    exact ⟨t.size, hb, fun b h1 h2 _ => t.keep b h1 h2, .inr ⟨x, s, cs, rfl, rfl, hE.imp (fun b _ hb => by omega) how, hs, hle _ _ _ hd, trivial⟩⟩
def Got {α : Type} (E : World → (Nat → Prop) → α → Array Value → Prop) (z : α) (w : World) (o : Option α) (e : Ending) (W' : World) : Prop :=
  ∃ cs, e = .returned (.tuple #[.agg cs, .int .i64 (errR o)]) ∧ E W' (fun b => w.heap.size ≤ b) (o.getD z) cs ∧ Below w.heap.size w W'
theorem GrOwn.rd {w : World} {P : Nat → Prop} {g : GraphD} {x : Array Value} (h : GrOwn w P g x) (ht : totG g ≤ 900000) : GrRd w g x := by
  obtain ⟨vn, vr, rfl, h1, h2⟩ := h
  unfold totG at ht
  have k1 : g.nodes.length ≤ (g.nodes.map totN).sum := len_sum totN fun n _ => totN_pos n
  have k2 : g.rels.length ≤ (g.rels.map totR).sum := len_sum totR fun n _ => totR_pos n
  obtain ⟨pn, cn, rfl, e1⟩ := h1.rd el_node (F := NRd) (by omega) fun v hv x hx => hx.rd (by have := mem_sum totN hv; omega)
  obtain ⟨pr, cr, rfl, e2⟩ := h2.rd el_rel (F := RRd) (by omega) fun v hv x hx => hx.rd (by have := mem_sum totR hv; omega)
  exact ⟨pn, cn, pr, cr, rfl, e1, e2⟩
def graphZ : GraphD := ⟨[], [], 0, 0⟩
theorem graphZ_own {W : World} {P : Nat → Prop} : GrOwn W P graphZ #[.slice none 0 0, .slice none 0 0, .int .i64 0, .int .i64 0] := ⟨_, _, rfl, GOwn.nil, GOwn.nil⟩
def val0 : V := .mk 0 false 0 [] [] []
theorem val0_own {W : World} {P : Nat → Prop} : VOwn W P val0 #[.int .i64 0, .bool false, .int .i64 0, .string ⟨#[]⟩, .slice none 0 0, .slice none 0 0] := own_flat W P 0 false 0 []
theorem ef_graph : EF GrRd 4 := by
  refine ⟨fun h g => h.below g, fun h => ?_, fun h u hu => ?_⟩
  · obtain ⟨pn, cn, pr, cr, rfl, _⟩ := h; rfl
  · obtain ⟨pn, cn, pr, cr, rfl, _⟩ := h
    simp only [List.mem_cons, List.not_mem_nil, or_false] at hu
    rcases hu with rfl | rfl | rfl | rfl <;> rfl
set_option maxRecDepth 100000 in
theorem fineG_any {w : World} (hE : Env w) {g : GraphD} {x : Array Value} (h : GrRd w g x) (ht : totG g ≤ 900000) : Calls Tryd.prog 43 #[.agg x] w fun e w' => e = .returned (.bool (okG g)) ∧ Below w.heap.size w w' := by
  have hxs := ef_graph.size h
  have hb := below_new (w := w) (.cells x 55)
  have HL := Lib.hid (st_graph.get (P := Tryd.prog) hxs (heap_alloc_new w (.cells x 55)))
  have HC := Lib.hid (check_graph (hE.b hb) (h.below hb) (by omega))
  have HB := Lib.hid hb
  clear hE hb h
  have hd : decide (errG (okG g) = 0) = okG g := by cases okG g <;> rfl
  generalize errG (okG g) = er at *
  generalize okG g = r at *
  go_enter Tryd.func43, Tryd.ntmps43
  go_wp2_with (first
    | ((with_reducible apply op_load); exact HL.out; exact rfl)
    | (go_at_call 31; refine HC.out.mono ?_; rintro e W1 ⟨rfl, hb⟩; have HB2 := Lib.hid (below_trans HB.out hb); clear hb))
  go_ret
  have e : (er == 0) = r := by rw [← hd]; rfl
  exact ⟨by show Ending.returned (.bool (er == 0)) = _; rw [e], HB2.out⟩
set_option maxRecDepth 100000 in
set_option maxHeartbeats 4000000 in
theorem readPub_G {w : World} (hE : Env w) {p : Option Addr} {c : Nat} {bs : List UInt8} (hrd : RdB w (.slice p bs.length c) bs) (hl : bs.length ≤ 900000) :
    Calls Tryd.prog 18 #[.slice p bs.length c] w (Got GrOwn graphZ w (readW rdGraph okG bs)) := by
  have hb := below_new (w := w) (.cells #[.slice none 0 0, .slice none 0 0, .int .i64 0, .int .i64 0] 55)
  have hbx := heap_alloc_new w (.cells #[.slice none 0 0, .slice none 0 0, .int .i64 0, .int .i64 0] 55)
  have hsz : (w.alloc (.cells #[.slice none 0 0, .slice none 0 0, .int .i64 0, .int .i64 0] 55)).heap.size = w.heap.size + 1 := by simp
  have hR := readG_any rdGraph okG hb hrd (by omega) (fun _ => False) (fun b h => h.elim) (fun _ => True) (fun _ _ _ _ => trivial)
    (fun W1 x cs => GrOwn W1 (fun b => (w.alloc (.cells #[.slice none 0 0, .slice none 0 0, .int .i64 0, .int .i64 0] 55)).heap.size + 3 ≤ b) x cs) (fun W1 x cs h => ⟨el_graph.size h, el_graph.ones h⟩) (fun W1 W2 x cs h hk => el_graph.keep (fun b hb hlt => hk b hb hlt) h)
    (fun W1 hs hst hk => (rgraph_any hst (by omega)).mono fun e W2 h => one_of el_graph hs (fun l' x s hd => rt_graph.le hd) h)
    (fun W1 x s cs hd how hbw => by
      have ht := (tot_of rt_graph df_graph ds_graph hd).1
      exact fineG_any (hE.b hbw) (how.rd (by omega)) (by omega))
  have HR := Lib.hid hR
  have HB := Lib.hid (And.intro hb (And.intro hbx hsz))
  clear hE hrd hb hbx hsz hR
  generalize readW rdGraph okG bs = res at *
  go_enter Tryd.func18, Tryd.ntmps18
  cases res with
  | none =>
    go_wp2_with (first
      | (go_at_call 37; refine HR.out.mono ?_; rintro e W2 ⟨hb2, hs2, hk2, rfl, _⟩
         (
          obtain ⟨hb, hbx, hsz⟩ := HB.out
          have hbx2 := (hk2 w.heap.size (by omega) (fun h => h)).trans hbx
          have Hst_graph := Lib.hid (st_graph.put (cs := #[.slice none 0 0, .slice none 0 0, .int .i64 0, .int .i64 0]) rfl (by simp [Value.oneCell']) hbx2 rfl)
          have HLD := Lib.hid (st_graph.get (P := Tryd.prog) (cs := #[.slice none 0 0, .slice none 0 0, .int .i64 0, .int .i64 0]) rfl (setRow_heap W2 w.heap.size _ #[.slice none 0 0, .slice none 0 0, .int .i64 0, .int .i64 0] _ _ hbx2))
          have HF := Lib.hid (below_row (B := w.heap.size) hb2 (Nat.le_refl _) #[.slice none 0 0, .slice none 0 0, .int .i64 0, .int .i64 0])
          clear hb hbx hsz hb2 hs2 hk2 hbx2 HR))
      | ((with_reducible apply op_store); exact Hst_graph.out; exact rfl; exact rfl))
    refine bodyPost_ret (results_cell_tmp2 rfl _ _ ⟨w.heap.size, 0, none⟩ _ rfl HLD.out) rfl ?_
    exact ⟨#[.slice none 0 0, .slice none 0 0, .int .i64 0, .int .i64 0], rfl, graphZ_own, HF.out⟩
  | some x =>
    go_wp2_with (first
      | (go_at_call 37; refine HR.out.mono ?_; rintro e W2 ⟨hb2, hs2, hk2, cs, rfl, how, _⟩
         (
          obtain ⟨hb, hbx, hsz⟩ := HB.out
          have hbx2 := (hk2 w.heap.size (by omega) (fun h => h)).trans hbx
          have hcs := el_graph.size how
          have Hst_graph := Lib.hid (st_graph.put hcs (el_graph.ones how) hbx2 rfl)
          have HLD := Lib.hid (st_graph.get (P := Tryd.prog) hcs (setRow_heap W2 w.heap.size _ cs _ _ hbx2))
          have hown : GrOwn (W2.setRow w.heap.size cs) (fun b => w.heap.size ≤ b) x cs := el_graph.imp (fun b _ hb => by omega) (el_graph.keep (w' := W2.setRow w.heap.size cs) (fun b hb hlt => setRow_other W2 _ b _ (by omega)) how)
          have HF := Lib.hid (And.intro hown (below_row (B := w.heap.size) hb2 (Nat.le_refl _) cs))
          clear hb hbx hsz hb2 hs2 hk2 hbx2 HR how hcs hown))
      | ((with_reducible apply op_store); exact Hst_graph.out; exact rfl; exact rfl))
    refine bodyPost_ret (results_cell_tmp2 rfl _ _ ⟨w.heap.size, 0, none⟩ _ rfl HLD.out) rfl ?_
    exact ⟨cs, rfl, HF.out.1, HF.out.2⟩
set_option maxRecDepth 100000 in
theorem fineV_any {w : World} (hE : Env w) {g : V} {x : Array Value} (h : VRd w g x) (ht : totV g ≤ 900000) : Calls Tryd.prog 30 #[.agg x] w fun e w' => e = .returned (.bool (okV g)) ∧ Below w.heap.size w w' := by
  have hxs := ef_val.size h
  have hb := below_new (w := w) (.cells x 41)
  have HL := Lib.hid (st_val.get (P := Tryd.prog) hxs (heap_alloc_new w (.cells x 41)))
  have HC := Lib.hid (check_ok (hE.b hb) (h.below hb) (by omega))
  have HB := Lib.hid hb
  clear hE hb h
  have hd : decide (checkV Lib.validD g = 0) = okV g := by rfl
  generalize checkV Lib.validD g = er at *
  generalize okV g = r at *
  go_enter Tryd.func30, Tryd.ntmps30
  go_wp2_with (first
    | ((with_reducible apply op_load); exact HL.out; exact rfl)
    | (go_at_call 25; refine HC.out.mono ?_; rintro e W1 ⟨rfl, hb⟩; have HB2 := Lib.hid (below_trans HB.out hb); clear hb))
  go_ret
  have e : (er == 0) = r := by rw [← hd]; rfl
  exact ⟨by show Ending.returned (.bool (er == 0)) = _; rw [e], HB2.out⟩
set_option maxRecDepth 100000 in
set_option maxHeartbeats 4000000 in
theorem readPub_V {w : World} (hE : Env w) {p : Option Addr} {c : Nat} {bs : List UInt8} (hrd : RdB w (.slice p bs.length c) bs) (hl : bs.length ≤ 900000) :
    Calls Tryd.prog 14 #[.slice p bs.length c] w (Got VOwn val0 w (readW (rdVal 64) okV bs)) := by
  have hb := below_new (w := w) (.cells #[.int .i64 0, .bool false, .int .i64 0, .string ⟨#[]⟩, .slice none 0 0, .slice none 0 0] 41)
  have hbx := heap_alloc_new w (.cells #[.int .i64 0, .bool false, .int .i64 0, .string ⟨#[]⟩, .slice none 0 0, .slice none 0 0] 41)
  have hsz : (w.alloc (.cells #[.int .i64 0, .bool false, .int .i64 0, .string ⟨#[]⟩, .slice none 0 0, .slice none 0 0] 41)).heap.size = w.heap.size + 1 := by simp
  have hR := readV_any (rdVal 64) okV hb hrd (by omega) (fun _ => False) (fun b h => h.elim) (fun _ => True) (fun _ _ _ _ => trivial)
    (fun W1 x cs => VOwn W1 (fun b => (w.alloc (.cells #[.int .i64 0, .bool false, .int .i64 0, .string ⟨#[]⟩, .slice none 0 0, .slice none 0 0] 41)).heap.size + 3 ≤ b) x cs) (fun W1 x cs h => ⟨el_val.size h, el_val.ones h⟩) (fun W1 W2 x cs h hk => el_val.keep (fun b hb hlt => hk b hb hlt) h)
    (fun W1 hs hst hk => (rvalue1_any hst (by omega)).mono fun e W2 h => one_of el_val hs (fun l' x s hd => (rt_val 64).le hd) h)
    (fun W1 x s cs hd how hbw => by
      have ht := (tot_of (rt_val 64) (df_val 64) (ds_val 64) hd).1
      exact fineV_any (hE.b hbw) (how.rd (by omega)) (by omega))
  have HR := Lib.hid hR
  have HB := Lib.hid (And.intro hb (And.intro hbx hsz))
  clear hE hrd hb hbx hsz hR
  generalize readW (rdVal 64) okV bs = res at *
  go_enter Tryd.func14, Tryd.ntmps14
  cases res with
  | none =>
    go_wp2_with (first
      | (go_at_call 27; refine HR.out.mono ?_; rintro e W2 ⟨hb2, hs2, hk2, rfl, _⟩
         (
          obtain ⟨hb, hbx, hsz⟩ := HB.out
          have hbx2 := (hk2 w.heap.size (by omega) (fun h => h)).trans hbx
          have Hst_val := Lib.hid (st_val.put (cs := #[.int .i64 0, .bool false, .int .i64 0, .string ⟨#[]⟩, .slice none 0 0, .slice none 0 0]) rfl (by simp [Value.oneCell']) hbx2 rfl)
          have HLD := Lib.hid (st_val.get (P := Tryd.prog) (cs := #[.int .i64 0, .bool false, .int .i64 0, .string ⟨#[]⟩, .slice none 0 0, .slice none 0 0]) rfl (setRow_heap W2 w.heap.size _ #[.int .i64 0, .bool false, .int .i64 0, .string ⟨#[]⟩, .slice none 0 0, .slice none 0 0] _ _ hbx2))
          have HF := Lib.hid (below_row (B := w.heap.size) hb2 (Nat.le_refl _) #[.int .i64 0, .bool false, .int .i64 0, .string ⟨#[]⟩, .slice none 0 0, .slice none 0 0])
          clear hb hbx hsz hb2 hs2 hk2 hbx2 HR))
      | ((with_reducible apply op_store); exact Hst_val.out; exact rfl; exact rfl))
    refine bodyPost_ret (results_cell_tmp2 rfl _ _ ⟨w.heap.size, 0, none⟩ _ rfl HLD.out) rfl ?_
    exact ⟨#[.int .i64 0, .bool false, .int .i64 0, .string ⟨#[]⟩, .slice none 0 0, .slice none 0 0], rfl, val0_own, HF.out⟩
  | some x =>
    go_wp2_with (first
      | (go_at_call 27; refine HR.out.mono ?_; rintro e W2 ⟨hb2, hs2, hk2, cs, rfl, how, _⟩
         (
          obtain ⟨hb, hbx, hsz⟩ := HB.out
          have hbx2 := (hk2 w.heap.size (by omega) (fun h => h)).trans hbx
          have hcs := el_val.size how
          have Hst_val := Lib.hid (st_val.put hcs (el_val.ones how) hbx2 rfl)
          have HLD := Lib.hid (st_val.get (P := Tryd.prog) hcs (setRow_heap W2 w.heap.size _ cs _ _ hbx2))
          have hown : VOwn (W2.setRow w.heap.size cs) (fun b => w.heap.size ≤ b) x cs := el_val.imp (fun b _ hb => by omega) (el_val.keep (w' := W2.setRow w.heap.size cs) (fun b hb hlt => setRow_other W2 _ b _ (by omega)) how)
          have HF := Lib.hid (And.intro hown (below_row (B := w.heap.size) hb2 (Nat.le_refl _) cs))
          clear hb hbx hsz hb2 hs2 hk2 hbx2 HR how hcs hown))
      | ((with_reducible apply op_store); exact Hst_val.out; exact rfl; exact rfl))
    refine bodyPost_ret (results_cell_tmp2 rfl _ _ ⟨w.heap.size, 0, none⟩ _ rfl HLD.out) rfl ?_
    exact ⟨cs, rfl, HF.out.1, HF.out.2⟩
end Go.Proofs.YthdfedfholmbmaaDoor

namespace Go.Proofs.YthdfedfholmbmaaDoor
open Go.RowKit
theorem COwn.rd {w : World} {P : Nat → Prop} {c : ChangeD} {x : Array Value} (h : COwn w P c x) (ht : totC c ≤ 900000) : CRd w c x := by
  obtain ⟨a, b, e, h1, h2⟩ := h
  unfold totC at ht
  exact ⟨a, b, e, h1.rd (by omega), h2.rd (by omega)⟩
theorem results_tmp3 {P : Program} {fn : Func} {p q r : Tmp} (h : fn.results = #[.tmp p, .tmp q, .tmp r]) (tmps : Array Value) (w : World) : (results fn tmps).run P w = .ok (.tuple #[tmps.getD p undef, tmps.getD q undef, tmps.getD r undef]) w := by
  simp [results, h]
def gotN (bs : List UInt8) : Nat × Nat × Int := match rdN 0 0 bs with
  | some (n, r) => (n, bs.length - r.length, 0)
  | none => (0, 0, 290)
theorem readNum_call {w : World} {p : Option Addr} {c : Nat} {bs : List UInt8} (hrd : RdB w (.slice p bs.length c) bs) (hl : bs.length ≤ 900000) :
    Calls Tryd.prog 20 #[.slice p bs.length c, .func (.func 21) #[] #[.pointer (some ⟨w.heap.size, 0, none⟩), .pointer (some ⟨w.heap.size + 1, 0, none⟩)], .func (.func 23) #[] #[]]
      ((w.alloc (.cells #[.slice p bs.length c] 23)).alloc (.cells #[.int .i64 0] 3)) fun e W' => e = .returned (.tuple #[.int .u64 ((gotN bs).1 : Int), .int .i64 (gotN bs).2.2]) ∧ Below w.heap.size w W' ∧ W'.heap[w.heap.size + 1]? = some (.cells #[.int .i64 ((gotN bs).2.1 : Int)] 3 (0, 0)) := by
  have hb : Below w.heap.size w ((w.alloc (.cells #[.slice p bs.length c] 23)).alloc (.cells #[.int .i64 0] 3)) := (below_new _).alloc (by simp) _
  have hbb : ((w.alloc (.cells #[.slice p bs.length c] 23)).alloc (.cells #[.int .i64 0] 3)).heap[w.heap.size]? = some (.cells #[.slice p bs.length c] 23 (0, 0)) := belowBlk (below_new (w := w.alloc (.cells #[.slice p bs.length c] 23)) (.cells #[.int .i64 0] 3)) (by simp) (heap_alloc_new w _)
  have hnb : ((w.alloc (.cells #[.slice p bs.length c] 23)).alloc (.cells #[.int .i64 0] 3)).heap[w.heap.size + 1]? = some (.cells #[.int .i64 0] 3 (0, 0)) := by
    simp only [heap_get_alloc, World.size_alloc]; rw [if_pos trivial]
  have hsz : ((w.alloc (.cells #[.slice p bs.length c] 23)).alloc (.cells #[.int .i64 0] 3)).heap.size = w.heap.size + 2 := by simp
  generalize (w.alloc (.cells #[.slice p bs.length c] 23)).alloc (.cells #[.int .i64 0] 3) = W at *
  have hR := readN_any (W := W) (a1 := some ⟨w.heap.size, 0, none⟩) (a2 := some ⟨w.heap.size + 1, 0, none⟩) dNum (fun _ => true) hb hrd (by omega) (fun b => b = w.heap.size + 1) (fun b h => by omega)
    (fun W1 => W1.heap[w.heap.size + 1]? = some (.cells #[.int .i64 (kNum bs : Int)] 3 (0, 0))) (fun W1 W2 h hk => (hk _ (by omega)).trans h)
    (fun W1 x cs => cs = #[.int .u64 (x : Int)]) (fun W1 x cs h => by subst h; exact ⟨rfl, fun u hu => by simp only [List.mem_cons, List.not_mem_nil, or_false] at hu; subst hu; rfl⟩) (fun W1 W2 x cs h hk => h)
    (fun W1 hs hst hk => by
      have hn := rnumber1_any hst (by omega) ((hk w.heap.size (by omega)).trans hbb) ((hk (w.heap.size + 1) (by omega)).trans hnb) (by omega) (by omega) (by omega)
      refine hn.mono ?_
      rintro e W2 ⟨h1, h2, h3, h4⟩
      refine ⟨h1, h2, fun b hb1 hb2 hb3 => h3 b hb1 hb2 hb3, ?_⟩
      rcases h4 with ⟨g1, rfl, g3⟩ | ⟨n, r, g1, rfl, g3, g4⟩
      · exact .inl ⟨by unfold dNum; rw [g1]; rfl, rfl, fun b hb => by subst hb; exact g3⟩
      · exact .inr ⟨n, [], #[.int .u64 (n : Int)], by unfold dNum; rw [g1]; rfl, rfl, rfl, g3, by simp, by unfold kNum; rw [g1]; exact g4⟩)
    (fun W1 x s cs hd how hbw => by subst how; exact anyNumber _ W1)
  refine hR.mono ?_
  rintro e W' ⟨h1, h2, h3, h4⟩
  cases hd : rdN 0 0 bs with
  | none =>
    have hg : readW dNum (fun _ => true) bs = none := by unfold readW dNum; rw [hd]; rfl
    rw [hg] at h4
    obtain ⟨rfl, h5⟩ := h4
    have e1 : gotN bs = (0, 0, 290) := by unfold gotN; rw [hd]
    rw [e1]
    exact ⟨rfl, h1, (h5 (by unfold dNum; rw [hd]; rfl) _ rfl).trans hnb⟩
  | some pp =>
    obtain ⟨n, r⟩ := pp
    have hg : readW dNum (fun _ => true) bs = some n := by unfold readW dNum; rw [hd]; rfl
    rw [hg] at h4
    obtain ⟨cs, rfl, rfl, h5⟩ := h4
    have e1 : gotN bs = (n, bs.length - r.length, 0) := by unfold gotN; rw [hd]
    have e2 : kNum bs = bs.length - r.length := by unfold kNum; rw [hd]
    rw [e2] at h5
    rw [e1]
    exact ⟨rfl, h1, h5⟩
set_option maxRecDepth 100000 in
set_option maxHeartbeats 4000000 in
theorem readPub_N {w : World} {p : Option Addr} {c : Nat} {bs : List UInt8} (hrd : RdB w (.slice p bs.length c) bs) (hl : bs.length ≤ 900000) :
    Calls Tryd.prog 7 #[.slice p bs.length c] w fun e W' => e = .returned (.tuple #[.int .u64 ((gotN bs).1 : Int), .int .i64 ((gotN bs).2.1 : Int), .int .i64 (gotN bs).2.2]) ∧ Below w.heap.size w W' := by
  have HR := Lib.hid (readNum_call hrd hl)
  clear hrd
  generalize gotN bs = res at *
  go_enter Tryd.func7, Tryd.ntmps7
  go_wp2_with (go_at_call 20; refine HR.out.mono ?_; rintro e W2 ⟨rfl, hb, hn⟩; have HB := Lib.hid (And.intro hb hn); clear hb hn HR)
  obtain ⟨hb, hn⟩ := HB.out
  have hd : W2.drew.heap[w.heap.size + 1]? = some (.cells #[.int .i64 (res.2.1 : Int)] 3 (0, 0)) := hn
  refine plain_region_draws (fun W => W.cell? ⟨w.heap.size + 1, 0, none⟩ = some (.int .i64 (res.2.1 : Int))) (by kernel_rfl) (cellOf (o := 0) hd rfl) (fun hS => ?_)
  refine take 0 14 (v := .int .u64 (res.1 : Int)) rfl rfl (by kernel_rfl) (by kernel_rfl) (by kernel_rfl) rfl (fun W hW => exec_move rfl rfl) (by assumption) ?_
  simp only [Act.put, List.setIfInBounds_toArray, List.set_cons_zero, List.set_cons_succ]
  refine take 1 15 (v := .int .i64 (res.2.1 : Int)) rfl rfl (by kernel_rfl) (by kernel_rfl) (by kernel_rfl) rfl (fun W hW => exec_load rfl rfl (run_load1 (w := W) Tryd.underlying3 rfl hW)) (by assumption) ?_
  simp only [Act.put, List.setIfInBounds_toArray, List.set_cons_zero, List.set_cons_succ]
  refine take 2 16 (v := .int .i64 res.2.2) rfl rfl (by kernel_rfl) (by kernel_rfl) (by kernel_rfl) rfl (fun W hW => exec_move rfl rfl) (by assumption) ?_
  simp only [Act.put, List.setIfInBounds_toArray, List.set_cons_zero, List.set_cons_succ]
  refine take 3 2 (v := .int .u64 (res.1 : Int)) rfl rfl (by kernel_rfl) (by kernel_rfl) (by kernel_rfl) rfl (fun W hW => exec_assign rfl rfl) (by assumption) ?_
  simp only [Act.put, List.setIfInBounds_toArray, List.set_cons_zero, List.set_cons_succ]
  refine take 4 3 (v := .int .i64 (res.2.1 : Int)) rfl rfl (by kernel_rfl) (by kernel_rfl) (by kernel_rfl) rfl (fun W hW => exec_assign rfl rfl) (by assumption) ?_
  simp only [Act.put, List.setIfInBounds_toArray, List.set_cons_zero, List.set_cons_succ]
  refine take 5 4 (v := .int .i64 res.2.2) rfl rfl (by kernel_rfl) (by kernel_rfl) (by kernel_rfl) rfl (fun W hW => exec_assign rfl rfl) (by assumption) ?_
  simp only [Act.put, List.setIfInBounds_toArray, List.set_cons_zero, List.set_cons_succ]
  refine done (by kernel_rfl) ?_ _
  have HF := Lib.hid hb.drew
  clear hb hn hd hS HB
  go_wp2
  refine bodyPost_ret (results_tmp3 rfl _ _) rfl ?_
  exact ⟨rfl, HF.out⟩
end Go.Proofs.YthdfedfholmbmaaDoor

namespace Go.Proofs.YthdfedfholmbmaaDoor
open Go.RowKit
theorem num_err (n : Int) (w : World) : Calls Tryd.prog 11 #[.int .i64 n] w fun e w' => e = .returned (.int .i64 n) ∧ w = w' := by
  go_enter Tryd.func11, Tryd.ntmps11
  go_wp2
  go_ret
  exact ⟨rfl, rfl⟩
theorem eql_bytesS (a b : List UInt8) (W : World) : (binOp .eql 9 (.string (strB a)) (.string (strB b))).run Tryd.prog W = .ok (.bool (decide (a = b))) W := by
  have e : (strB a = strB b) ↔ a = b := strB_inj
  by_cases h : a = b
  · subst h; simp [go_sem]
  · rw [decide_eq_false h]
    simp [go_sem, strB_toList, h]
set_option maxRecDepth 100000 in
theorem bytes_any {w : World} {p p2 : Option Addr} {c c2 : Nat} {l m : List UInt8} (h : RdB w (.slice p l.length c) l) (h2 : RdB w (.slice p2 m.length c2) m) : Calls Tryd.prog 9 #[.slice p l.length c, .slice p2 m.length c2] w fun e w' => e = .returned (.bool (decide (l = m))) ∧ w = w' := by
  have H1 := Lib.hid (bytes_str h)
  have H2 := Lib.hid (bytes_str h2)
  have H3 := Lib.hid (eql_bytesS l m)
  clear h h2
  generalize strB l = x at *
  generalize strB m = y at *
  generalize decide (l = m) = r at *
  go_enter Tryd.func9, Tryd.ntmps9
  go_wp2_with (first
    | ((with_reducible apply op_conv); exact H1.out; exact rfl)
    | ((with_reducible apply op_conv); exact H2.out; exact rfl)
    | (refine wpList_run rfl (exec_bins rfl rfl rfl (H3.out _)) ?_))
  go_ret
  exact ⟨rfl, rfl⟩
theorem own_rdB {w : World} {P : Nat → Prop} {o : Value} {l : List UInt8} (h : OwnsP w P 5 1 o l.length (l.map byteV)) : ∃ p c, o = .slice p l.length c ∧ RdB w (.slice p l.length c) l := by
  have hc := fun g => h.1.cells (g := g)
  rcases h.1.2 with ⟨rfl, h0⟩ | ⟨g, cap, cur, rfl, _, hg, hnc, hcm, _⟩
  · have : l = [] := List.eq_nil_of_length_eq_zero h0
    subst this
    exact ⟨none, 0, rfl, none, 0, rfl, ⟨Nat.le_refl _, by simp [maxLen], fun _ => rfl⟩, fun ad had => by cases had⟩
  · refine ⟨some ⟨g, 0, none⟩, cap, rfl, some ⟨g, 0, none⟩, cap, rfl, ⟨hnc, hcm, fun h => by cases h⟩, fun ad had => ⟨fun _ => by cases had; rfl, fun i b hb => ?_⟩⟩
    cases had
    have := hc g rfl i (byteV b) (by rw [List.getElem?_map, hb]; rfl)
    rw [addr_add] at this
    simpa [byteV] using this
theorem lit_rd {W : World} {g : Nat} {cs : Array Value} {T : TypeId} {l : List UInt8} (h : W.heap[g]? = some (.cells cs T (0, 0))) (hc : cs.toList = l.map byteV) (hl : l.length ≤ 1000000) : RdB W (.slice (some ⟨g, 0, none⟩) l.length l.length) l := by
  refine ⟨some ⟨g, 0, none⟩, l.length, rfl, ⟨Nat.le_refl _, by unfold maxLen; omega, fun h => by cases h⟩, fun ad had => ⟨fun _ => by cases had; rfl, fun i b hb => ?_⟩⟩
  cases had
  refine cellOf (o := 0 + i) h ?_
  rw [Nat.zero_add, ← Array.getElem?_toList, hc, List.getElem?_map, hb]
  rfl
def wkGraph : GraphD := ⟨[⟨0, [[65]], []⟩], [], 1, 0⟩
theorem wk_okNm : okNm [65] = true := by
  unfold okNm
  have : Lib.validD [65] = true := by rfl
  rw [this]; rfl
theorem wk_okG : okG wkGraph = true := by
  unfold okG okSz okNs okRs okN wkGraph okPs
  simp [risesB, risesI, wk_okNm]
theorem wk_graphC : graphC wkGraph = [1, 0, 1, 1, 65, 0, 0, 1, 0] := by
  unfold graphC rowsC nodeC wkGraph rowsC textC toU
  simp [numB_low]
theorem wk_rng : rngG wkGraph := by
  unfold rngG rngN rngR rngP wkGraph i64T
  simp
theorem wk_tot : totG wkGraph = 3 := rfl
theorem wk_wf : wfG wkGraph := wf_of_okG wk_okG wk_rng (by rw [wk_tot]; omega)
theorem wk_readG : readW rdGraph okG [1, 0, 1, 1, 65, 0, 0, 1, 0] = some wkGraph := by
  rw [← wk_graphC]
  exact readW_of rt_graph wk_wf wk_okG
def wkChange : ChangeD := ⟨2, 5, 0, node0, rel0⟩
theorem wk_okC : ([wkChange] : List ChangeD).all okC = true := by
  unfold okC wkChange
  simp
theorem wk_changesC : changesC [wkChange] = [1, 2, 10] := by
  unfold changesC rowsC changeC wkChange zzN
  simp [numB_low]
theorem wk_readV : readW (rdVal 64) okV [0, 0] = none := by
  have : rdVal 64 [0, 0] = some (.mk 0 false 0 [] [] [], [0]) := by
    rfl
  unfold readW
  rw [this]
theorem wk_readN : gotN [172, 2, 7] = (300, 2, 0) := by
  unfold gotN
  have h := rt_num.full 300 [7] (by unfold u64T; omega)
  have e : numB 300 = [172, 2] := by rw [numB_high (by omega), numB_low (by omega)]; rfl
  rw [e] at h
  have e2 : ([172, 2] : List UInt8) ++ [7] = [172, 2, 7] := rfl
  rw [e2] at h
  rw [h]
  rfl
end Go.Proofs.YthdfedfholmbmaaDoor

namespace Go.Proofs.YthdfedfholmbmaaDoor
open Go.RowKit
theorem rds_one {W : World} {g : Nat} {T : TypeId} {s : List UInt8} (h : W.heap[g]? = some (.cells #[.string (strB s)] T (0, 0))) (hs : s.length ≤ 1000000) : RdS W (some ⟨g, 0, none⟩) 1 [s] := by
  refine ⟨Nat.le_refl _, ⟨by simp, by omega⟩, (fun h => by cases h), (fun x hx => by simp at hx; subst hx; omega), fun ad had => ⟨fun _ => by cases had; rfl, fun i t ht => ?_⟩⟩
  cases had
  match i, ht with
  | 0, ht => cases ht; exact cellOf (o := 0) h rfl
  | n + 1, ht => simp at ht
theorem wk_graph_rd {w : World} : GrRd (((w.alloc (.cells #[.string ⟨#[65]⟩] 9)).alloc (.cells #[.int .i64 0, .slice (some ⟨w.heap.size, 0, none⟩) 1 1, .slice none 0 0] 51)).alloc (.cells #[.slice (some ⟨w.heap.size + 1, 0, none⟩) 1 1, .slice none 0 0, .int .i64 1, .int .i64 0] 55)) wkGraph
    #[.slice (some ⟨w.heap.size + 1, 0, none⟩) 1 1, .slice none 0 0, .int .i64 1, .int .i64 0] := by
  have h1 : (((w.alloc (.cells #[.string ⟨#[65]⟩] 9)).alloc (.cells #[.int .i64 0, .slice (some ⟨w.heap.size, 0, none⟩) 1 1, .slice none 0 0] 51)).alloc (.cells #[.slice (some ⟨w.heap.size + 1, 0, none⟩) 1 1, .slice none 0 0, .int .i64 1, .int .i64 0] 55)).heap[w.heap.size + 1]? = some (.cells #[.int .i64 0, .slice (some ⟨w.heap.size, 0, none⟩) 1 1, .slice none 0 0] 51 (0, 0)) := by
    simp only [heap_get_alloc, World.size_alloc]; rw [if_neg (by omega), if_pos trivial]
  have h0 : (((w.alloc (.cells #[.string ⟨#[65]⟩] 9)).alloc (.cells #[.int .i64 0, .slice (some ⟨w.heap.size, 0, none⟩) 1 1, .slice none 0 0] 51)).alloc (.cells #[.slice (some ⟨w.heap.size + 1, 0, none⟩) 1 1, .slice none 0 0, .int .i64 1, .int .i64 0] 55)).heap[w.heap.size]? = some (.cells #[.string ⟨#[65]⟩] 9 (0, 0)) := by
    simp only [heap_get_alloc, World.size_alloc]; rw [if_neg (by omega), if_neg (by omega), if_pos trivial]
  refine ⟨some ⟨w.heap.size + 1, 0, none⟩, 1, none, 0, rfl, grd_one h1 rfl ?_, grd_none⟩
  exact ⟨some ⟨w.heap.size, 0, none⟩, 1, none, 0, rfl, rds_one (s := [65]) h0 (by simp), grd_none⟩
theorem wk_callG {w : World} (hE : Env w) : Calls Tryd.prog 17 #[.agg #[.slice (some ⟨w.heap.size + 1, 0, none⟩) 1 1, .slice none 0 0, .int .i64 1, .int .i64 0]]
    (((w.alloc (.cells #[.string ⟨#[65]⟩] 9)).alloc (.cells #[.int .i64 0, .slice (some ⟨w.heap.size, 0, none⟩) 1 1, .slice none 0 0] 51)).alloc (.cells #[.slice (some ⟨w.heap.size + 1, 0, none⟩) 1 1, .slice none 0 0, .int .i64 1, .int .i64 0] 55)) fun e W => ∃ p c, e = .returned (.tuple #[.slice p 9 c, .int .i64 0]) ∧ RdB W (.slice p 9 c) [1, 0, 1, 1, 65, 0, 0, 1, 0] ∧ Below w.heap.size w W := by
  have hb : Below w.heap.size w (((w.alloc (.cells #[.string ⟨#[65]⟩] 9)).alloc (.cells #[.int .i64 0, .slice (some ⟨w.heap.size, 0, none⟩) 1 1, .slice none 0 0] 51)).alloc (.cells #[.slice (some ⟨w.heap.size + 1, 0, none⟩) 1 1, .slice none 0 0, .int .i64 1, .int .i64 0] 55)) := ((below_new _).alloc (by simp) _).alloc (by simp; omega) _
  refine (codecGraph_any (hE.b hb) wk_graph_rd wk_rng (by rw [wk_tot]; omega)).mono ?_
  rintro e W ⟨o, rfl, ho, hbw⟩
  have e1 : outG wkGraph = [1, 0, 1, 1, 65, 0, 0, 1, 0] := by unfold outG; rw [wk_okG, wk_graphC]; rfl
  rw [e1] at ho
  obtain ⟨p, c, rfl, hr⟩ := own_rdB ho
  exact ⟨p, c, by rw [wk_okG]; rfl, hr, below_trans hb hbw⟩
theorem wk_callRG {W : World} (hE : Env W) {p : Option Addr} {c : Nat} (h : RdB W (.slice p 9 c) [1, 0, 1, 1, 65, 0, 0, 1, 0]) : Calls Tryd.prog 18 #[.slice p 9 c] W fun e W' => ∃ pn cn vr, e = .returned (.tuple #[.agg #[.slice pn 1 cn, vr, .int .i64 1, .int .i64 0], .int .i64 0]) ∧ vr.oneCell' = true ∧ Below W.heap.size W W' := by
  refine (readPub_G (bs := [1, 0, 1, 1, 65, 0, 0, 1, 0]) hE h (by simp)).mono ?_
  rintro e W' ⟨cs, rfl, ho, hb⟩
  rw [wk_readG] at ho ⊢
  obtain ⟨vn, vr, rfl, h1, h2⟩ := ho
  obtain ⟨pn, cn, rfl⟩ := h1.slice
  refine ⟨pn, cn, vr, rfl, ?_, hb⟩
  obtain ⟨xs, h3, _⟩ := h2
  exact own_one h3
abbrev wkCh : Array Value := #[.int .i64 2, .int .i64 5, .int .i64 0, .int .i64 0, .slice none 0 0, .slice none 0 0, .int .i64 0, .int .i64 0, .int .i64 0, .string ⟨#[]⟩, .slice none 0 0]
theorem wk_change_rd {W : World} : CRd W wkChange wkCh :=
  ⟨#[.int .i64 0, .slice none 0 0, .slice none 0 0], #[.int .i64 0, .int .i64 0, .int .i64 0, .string ⟨#[]⟩, .slice none 0 0], rfl, ⟨none, 0, none, 0, rfl, ⟨Nat.le_refl _, ⟨by simp [wkChange, node0], by omega⟩, fun _ => rfl, fun s hs => (by simp [wkChange, node0] at hs), fun ad h => by cases h⟩, grd_none⟩, ⟨none, 0, rfl, by simp [wkChange, rel0], grd_none⟩⟩
theorem wk_callC {W : World} (hE : Env W) : Calls Tryd.prog 19 #[.slice (some ⟨W.heap.size, 0, none⟩) 1 1] (W.alloc (.cells wkCh 64)) fun e W' => ∃ p c, e = .returned (.tuple #[.slice p 3 c, .int .i64 0]) ∧ RdB W' (.slice p 3 c) [1, 2, 10] ∧ Below W.heap.size W W' := by
  have hb := below_new (w := W) (.cells wkCh 64)
  have hx := heap_alloc_new W (.cells wkCh 64)
  refine (codecChanges_any (l := [wkChange]) (hE.b hb) (grd_one hx rfl wk_change_rd) (fun x hx => ?_) (by simp [wkChange, totC, totN, totR, node0, rel0, totLs, totPs])).mono ?_
  · simp only [List.mem_cons, List.not_mem_nil, or_false] at hx
    subst hx
    exact ⟨by unfold wkChange i64T; simp, by unfold wkChange i64T; simp, by unfold wkChange i64T; simp, rng_node0, rng_rel0⟩
  · rintro e W' ⟨o, rfl, ho, hbw⟩
    have e1 : outC [wkChange] = [1, 2, 10] := by unfold outC; rw [wk_okC, wk_changesC]; rfl
    have e2 : errC [wkChange] = 0 := by unfold errC; rw [wk_okC]; rfl
    rw [e1] at ho
    obtain ⟨p, c, rfl, hr⟩ := own_rdB ho
    exact ⟨p, c, by rw [e2]; rfl, hr, below_trans hb hbw⟩
theorem wk_callRV {W : World} (hE : Env W) : Calls Tryd.prog 14 #[.slice (some ⟨W.heap.size, 0, none⟩) 2 2] (W.alloc (.cells #[.int .u8 0, .int .u8 0] 5)) fun e W' => ∃ cs, e = .returned (.tuple #[.agg cs, .int .i64 290]) ∧ (cs.size = 6 ∧ ∀ u ∈ cs.toList, u.oneCell' = true) ∧ Below W.heap.size W W' := by
  have hb := below_new (w := W) (.cells #[.int .u8 0, .int .u8 0] 5)
  have hx := heap_alloc_new W (.cells #[.int .u8 0, .int .u8 0] 5)
  refine (readPub_V (bs := [0, 0]) (hE.b hb) (lit_rd (l := [0, 0]) hx rfl (by simp)) (by simp)).mono ?_
  rintro e W' ⟨cs, rfl, ho, hbw⟩
  rw [wk_readV] at ho ⊢
  exact ⟨cs, rfl, ⟨ho.size6, ho.ones⟩, below_trans hb hbw⟩
theorem wk_callRN {W : World} : Calls Tryd.prog 7 #[.slice (some ⟨W.heap.size, 0, none⟩) 3 3] (W.alloc (.cells #[.int .u8 172, .int .u8 2, .int .u8 7] 5)) fun e W' => e = .returned (.tuple #[.int .u64 300, .int .i64 2, .int .i64 0]) ∧ Below W.heap.size W W' := by
  have hb := below_new (w := W) (.cells #[.int .u8 172, .int .u8 2, .int .u8 7] 5)
  have hx := heap_alloc_new W (.cells #[.int .u8 172, .int .u8 2, .int .u8 7] 5)
  refine (readPub_N (bs := [172, 2, 7]) (lit_rd (l := [172, 2, 7]) hx rfl (by simp)) (by simp)).mono ?_
  rintro e W' ⟨rfl, hbw⟩
  rw [wk_readN]
  exact ⟨rfl, below_trans hb hbw⟩
abbrev wkL9 : Array Value := #[.int .u8 1, .int .u8 0, .int .u8 1, .int .u8 1, .int .u8 65, .int .u8 0, .int .u8 0, .int .u8 1, .int .u8 0]
abbrev wkL3 : Array Value := #[.int .u8 1, .int .u8 2, .int .u8 10]
theorem wk_bytes9 {W : World} {p : Option Addr} {c : Nat} (h : RdB W (.slice p 9 c) [1, 0, 1, 1, 65, 0, 0, 1, 0]) : Calls Tryd.prog 9 #[.slice p 9 c, .slice (some ⟨W.heap.size, 0, none⟩) 9 9] (W.alloc (.cells wkL9 5)) fun e W' => e = .returned (.bool true) ∧ W.alloc (.cells wkL9 5) = W' := by
  have hb := below_new (w := W) (.cells wkL9 5)
  refine (bytes_any (l := [1, 0, 1, 1, 65, 0, 0, 1, 0]) (m := [1, 0, 1, 1, 65, 0, 0, 1, 0]) (h.below hb) (lit_rd (l := [1, 0, 1, 1, 65, 0, 0, 1, 0]) (heap_alloc_new W (.cells wkL9 5)) rfl (by simp))).mono ?_
  rintro e W' ⟨rfl, rfl⟩
  exact ⟨rfl, rfl⟩
theorem wk_bytes3 {W : World} {p : Option Addr} {c : Nat} (h : RdB W (.slice p 3 c) [1, 2, 10]) : Calls Tryd.prog 9 #[.slice p 3 c, .slice (some ⟨W.heap.size, 0, none⟩) 3 3] (W.alloc (.cells wkL3 5)) fun e W' => e = .returned (.bool true) ∧ W.alloc (.cells wkL3 5) = W' := by
  have hb := below_new (w := W) (.cells wkL3 5)
  refine (bytes_any (l := [1, 2, 10]) (m := [1, 2, 10]) (h.below hb) (lit_rd (l := [1, 2, 10]) (heap_alloc_new W (.cells wkL3 5)) rfl (by simp))).mono ?_
  rintro e W' ⟨rfl, rfl⟩
  exact ⟨rfl, rfl⟩
set_option maxRecDepth 100000 in
set_option maxHeartbeats 4000000 in
theorem worksG_any {w : World} (hE : Env w) : Calls Tryd.prog 5 #[] w fun e w' => e = .returned (.bool true) ∧ Below w.heap.size w w' := by
  have HG := Lib.hid (wk_callG hE)
  have HE := Lib.hid hE
  clear hE
  go_enter Tryd.func5, Tryd.ntmps5
  go_wp2_with (first
    | (go_at_call 17; refine HG.out.mono ?_; rintro e W2 ⟨p, c, rfl, hr, hb⟩; have H2 := Lib.hid (And.intro hr hb); clear hr hb HG)
    | (go_at_call 18; refine (wk_callRG (HE.out.b H2.out.2) H2.out.1).mono ?_; rintro e W3 ⟨pn, cn, vr, rfl, hv, hb⟩
       (
        have HS := Lib.hid (st_graph.fresh (P := Tryd.prog) (W := W3) (cs := #[.slice pn 1 cn, vr, .int .i64 1, .int .i64 0]) rfl (by intro u hu; simp only [List.mem_cons, List.not_mem_nil, or_false] at hu; rcases hu with rfl | rfl | rfl | rfl <;> first | rfl | assumption))
        have H3 := Lib.hid (And.intro (H2.out.1.below hb) (below_trans H2.out.2 hb))
        clear hv hb H2))
    | ((with_reducible apply op_store); exact HS.out _ rfl; exact rfl; exact rfl
       (
        have hbn := below_new (w := W3) (.cells #[.slice pn 1 cn, vr, .int .i64 1, .int .i64 0] 55)
        have H4 := Lib.hid (And.intro (H3.out.1.below hbn) (And.intro (below_trans H3.out.2 hbn) (heap_alloc_new W3 (.cells #[.slice pn 1 cn, vr, .int .i64 1, .int .i64 0] 55))))
        clear hbn HS H3
        generalize W3.alloc (.cells #[.slice pn 1 cn, vr, .int .i64 1, .int .i64 0] 55) = W4 at *
        generalize W3.heap.size = B4 at *
        have HC := Lib.hid (wk_callC (HE.out.b H4.out.2.1))))
    | (go_at_call 19
       (
        refine HC.out.mono ?_; rintro e W5 ⟨p5, c5, rfl, hr5, hb⟩
        have H5 := Lib.hid (And.intro (H4.out.1.below hb) (And.intro (below_trans H4.out.2.1 hb) (And.intro (belowBlk hb (Array.getElem?_eq_some_iff.1 H4.out.2.2).1 H4.out.2.2) hr5)))
        clear hb hr5 HC H4
        have HV := Lib.hid (wk_callRV (HE.out.b H5.out.2.1))))
    | (go_at_call 14
       (
        refine HV.out.mono ?_; rintro e W6 ⟨cv, rfl, hcv, hb⟩
        have HS2 := Lib.hid (st_val.fresh (P := Tryd.prog) (W := W6) hcv.1 hcv.2)
        have H6 := Lib.hid (And.intro (H5.out.1.below hb) (And.intro (below_trans H5.out.2.1 hb) (And.intro (belowBlk hb (Array.getElem?_eq_some_iff.1 H5.out.2.2.1).1 H5.out.2.2.1) (H5.out.2.2.2.below hb))))
        clear hb hcv HV H5))
    | ((with_reducible apply op_store); exact HS2.out _ rfl; exact rfl; exact rfl
       (
        have hbn := below_new (w := W6) (.cells cv 41)
        have H7 := Lib.hid (And.intro (H6.out.1.below hbn) (And.intro (below_trans H6.out.2.1 hbn) (And.intro (belowBlk hbn (Array.getElem?_eq_some_iff.1 H6.out.2.2.1).1 H6.out.2.2.1) (H6.out.2.2.2.below hbn))))
        clear hbn HS2 H6
        generalize W6.alloc (.cells cv 41) = W7 at *
        generalize W6.heap.size = B6 at *
        have HN := Lib.hid (wk_callRN (W := W7))))
    | (go_at_call 7
       (
        refine HN.out.mono ?_; rintro e W8 ⟨rfl, hb⟩
        have H8 := Lib.hid (And.intro (H7.out.1.below hb) (And.intro (below_trans H7.out.2.1 hb) (And.intro (belowBlk hb (Array.getElem?_eq_some_iff.1 H7.out.2.2.1).1 H7.out.2.2.1) (H7.out.2.2.2.below hb))))
        clear hb HN H7))
    | (go_at_call 11; refine (num_err _ _).mono ?_; rintro e w' ⟨rfl, rfl⟩)
    | (go_at_call 9
       (
        refine (wk_bytes9 H8.out.1).mono ?_
        rintro e W9 ⟨rfl, h9⟩
        have hb := below_new (w := W8) (.cells wkL9 5)
        rw [h9] at hb
        have hc4 := cellOf (o := 0) (belowBlk hb (Array.getElem?_eq_some_iff.1 H8.out.2.2.1).1 H8.out.2.2.1) rfl
        have H9 := Lib.hid (And.intro (below_trans H8.out.2.1 hb) (H8.out.2.2.2.below hb))
        clear hb h9 H8))
    | (go_at_call 9
       (
        refine (wk_bytes3 H9.out.2).mono ?_
        rintro e W10 ⟨rfl, h10⟩
        have hb := below_new (w := W9) (.cells wkL3 5)
        rw [h10] at hb
        have H10 := Lib.hid (below_trans H9.out.1 hb)
        clear hb h10 H9)))
  go_ret
  exact ⟨rfl, H10.out⟩
end Go.Proofs.YthdfedfholmbmaaDoor

namespace Go.Proofs.YthdfedfholmbmaaDoor
open Go.RowKit
theorem lt_nat (i j : Nat) (W : World) : (binOp .lss 3 (.int .i64 (i : Int)) (.int .i64 (j : Int))).run Tryd.prog W = .ok (.bool (decide (i < j))) W := by
  simp [go_sem]
set_option maxRecDepth 100000 in
set_option maxHeartbeats 8000000 in
theorem begins_any {w : World} {p p2 : Option Addr} {c c2 : Nat} {l m : List UInt8} (h : RdB w (.slice p l.length c) l) (h2 : RdB w (.slice p2 m.length c2) m) : Calls Tryd.prog 16 #[.slice p l.length c, .slice p2 m.length c2] w fun e w' => e = .returned (.bool (beginsB l m)) ∧ Below w.heap.size w w' := by
  unfold beginsB
  by_cases hlt : l.length < m.length
  · rw [decide_eq_true hlt, Bool.true_and]
    have hlt0 : ∀ W, (binOp .lss 3 (.int .i64 (l.length : Int)) (.int .i64 (m.length : Int))).run Tryd.prog W = .ok (.bool true) W := fun W => by rw [lt_nat, decide_eq_true hlt]
    obtain ⟨a3, hs3, hrd3, _⟩ := sub_rdB h2 none (some (l.length : Int)) 0 l.length (by simp) (by simp) (by simp) (by simp) (Nat.zero_le _) (Nat.le_of_lt hlt)
    simp only [Nat.sub_zero, List.drop_zero, Option.map_none, Option.map_some] at hs3 hrd3
    have hrd3 : RdB w (.slice a3 (m.take l.length).length c2) (m.take l.length) := by rw [List.length_take, Nat.min_eq_left (Nat.le_of_lt hlt)]; exact hrd3
    have htl : (m.take l.length).length = l.length := by rw [List.length_take]; omega
    have hrd3 : RdB w (.slice a3 l.length c2) (m.take l.length) := by rw [htl] at hrd3; exact hrd3
    have HX := Lib.hid (And.intro hlt0 (And.intro hs3 (And.intro hrd3 (And.intro h hlt))))
    clear hlt0 hs3 hrd3 h h2 hlt htl
    go_enter Tryd.func16, Tryd.ntmps16
    go_wp2
    obtain ⟨hlt0, hs3, hrd3, h, hlt⟩ := HX.out
    refine plain_region_draws (fun W => Below w.heap.size w W) (by kernel_rfl) (show Below w.heap.size w w.drew from (Below.refl _ _).drew) (fun hS => ?_)
    refine take 0 5 (v := .slice p l.length c) rfl rfl (by kernel_rfl) (by kernel_rfl) (by kernel_rfl) rfl (fun W hW => exec_move rfl rfl) (by assumption) ?_
    simp only [Act.put, List.setIfInBounds_toArray, List.set_cons_zero, List.set_cons_succ]
    refine take 1 6 (v := .int .i64 (l.length : Int)) rfl rfl (by kernel_rfl) (by kernel_rfl) (by kernel_rfl) rfl (fun W hW => exec_lenb rfl rfl) (by assumption) ?_
    simp only [Act.put, List.setIfInBounds_toArray, List.set_cons_zero, List.set_cons_succ]
    refine take 2 7 (v := .slice p2 m.length c2) rfl rfl (by kernel_rfl) (by kernel_rfl) (by kernel_rfl) rfl (fun W hW => exec_move rfl rfl) (by assumption) ?_
    simp only [Act.put, List.setIfInBounds_toArray, List.set_cons_zero, List.set_cons_succ]
    refine take 3 8 (v := .int .i64 (m.length : Int)) rfl rfl (by kernel_rfl) (by kernel_rfl) (by kernel_rfl) rfl (fun W hW => exec_lenb rfl rfl) (by assumption) ?_
    simp only [Act.put, List.setIfInBounds_toArray, List.set_cons_zero, List.set_cons_succ]
    refine take 4 9 (v := .bool true) rfl rfl (by kernel_rfl) (by kernel_rfl) (by kernel_rfl) rfl (fun W hW => exec_bini rfl rfl rfl (hlt0 W)) (by assumption) ?_
    simp only [Act.put, List.setIfInBounds_toArray, List.set_cons_zero, List.set_cons_succ]
    refine take 5 10 (v := .bool true) rfl rfl (by kernel_rfl) (by kernel_rfl) (by kernel_rfl) rfl (fun W hW => exec_move rfl rfl) (by assumption) ?_
    simp only [Act.put, List.setIfInBounds_toArray, List.set_cons_zero, List.set_cons_succ]
    refine take 6 11 (v := .slice p2 m.length c2) rfl rfl (by kernel_rfl) (by kernel_rfl) (by kernel_rfl) rfl (fun W hW => exec_move rfl rfl) (by assumption) ?_
    simp only [Act.put, List.setIfInBounds_toArray, List.set_cons_zero, List.set_cons_succ]
    refine take 7 12 (v := .slice p l.length c) rfl rfl (by kernel_rfl) (by kernel_rfl) (by kernel_rfl) rfl (fun W hW => exec_move rfl rfl) (by assumption) ?_
    simp only [Act.put, List.setIfInBounds_toArray, List.set_cons_zero, List.set_cons_succ]
    refine take 8 13 (v := .int .i64 (l.length : Int)) rfl rfl (by kernel_rfl) (by kernel_rfl) (by kernel_rfl) rfl (fun W hW => exec_lenb rfl rfl) (by assumption) ?_
    simp only [Act.put, List.setIfInBounds_toArray, List.set_cons_zero, List.set_cons_succ]
    refine take 9 14 (v := .slice a3 l.length c2) rfl rfl (by kernel_rfl) (by kernel_rfl) (by kernel_rfl) rfl (fun W hW => exec_slice rfl rfl rfl rfl rfl (hs3 W)) (by assumption) ?_
    simp only [Act.put, List.setIfInBounds_toArray, List.set_cons_zero, List.set_cons_succ]
    refine take 10 15 (v := .string (strB (m.take l.length))) rfl rfl (by kernel_rfl) (by kernel_rfl) (by kernel_rfl) rfl (fun W hW => exec_convert rfl rfl (bytes_str (hrd3.below hW))) (by assumption) ?_
    simp only [Act.put, List.setIfInBounds_toArray, List.set_cons_zero, List.set_cons_succ]
    refine take 11 16 (v := .slice p l.length c) rfl rfl (by kernel_rfl) (by kernel_rfl) (by kernel_rfl) rfl (fun W hW => exec_move rfl rfl) (by assumption) ?_
    simp only [Act.put, List.setIfInBounds_toArray, List.set_cons_zero, List.set_cons_succ]
    refine take 12 17 (v := .string (strB l)) rfl rfl (by kernel_rfl) (by kernel_rfl) (by kernel_rfl) rfl (fun W hW => exec_convert rfl rfl (bytes_str (h.below hW))) (by assumption) ?_
    simp only [Act.put, List.setIfInBounds_toArray, List.set_cons_zero, List.set_cons_succ]
    refine take 13 18 (v := .bool (decide (m.take l.length = l))) rfl rfl (by kernel_rfl) (by kernel_rfl) (by kernel_rfl) rfl (fun W hW => exec_bins rfl rfl rfl (eql_bytesS _ _ W)) (by assumption) ?_
    simp only [Act.put, List.setIfInBounds_toArray, List.set_cons_zero, List.set_cons_succ]
    refine take 14 19 (v := .bool (decide (m.take l.length = l))) rfl rfl (by kernel_rfl) (by kernel_rfl) (by kernel_rfl) rfl (fun W hW => rfl) (by assumption) ?_
    simp only [Act.put, List.setIfInBounds_toArray, List.set_cons_zero, List.set_cons_succ]
    refine take 15 4 (v := .bool (decide (m.take l.length = l))) rfl rfl (by kernel_rfl) (by kernel_rfl) (by kernel_rfl) rfl (fun W hW => exec_assign rfl rfl) (by assumption) ?_
    simp only [Act.put, List.setIfInBounds_toArray, List.set_cons_zero, List.set_cons_succ]
    refine done (by kernel_rfl) ?_ _
    have HS := Lib.hid hS
    clear hS hlt0 hs3 hrd3 h
    clear hlt HX
    go_wp2
    go_ret
    exact ⟨rfl, HS.out⟩
  · have hlt0 : ∀ W, (binOp .lss 3 (.int .i64 (l.length : Int)) (.int .i64 (m.length : Int))).run Tryd.prog W = .ok (.bool false) W := fun W => by rw [lt_nat, decide_eq_false hlt]
    rw [decide_eq_false hlt, Bool.false_and]
    have HX := Lib.hid hlt0
    clear hlt0 hlt
    go_enter Tryd.func16, Tryd.ntmps16
    go_wp2
    have hlt0 := HX.out
    refine plain_region_draws (fun W => Below w.heap.size w W) (by kernel_rfl) (show Below w.heap.size w w.drew from (Below.refl _ _).drew) (fun hS => ?_)
    refine take 0 5 (v := .slice p l.length c) rfl rfl (by kernel_rfl) (by kernel_rfl) (by kernel_rfl) rfl (fun W hW => exec_move rfl rfl) (by assumption) ?_
    simp only [Act.put, List.setIfInBounds_toArray, List.set_cons_zero, List.set_cons_succ]
    refine take 1 6 (v := .int .i64 (l.length : Int)) rfl rfl (by kernel_rfl) (by kernel_rfl) (by kernel_rfl) rfl (fun W hW => exec_lenb rfl rfl) (by assumption) ?_
    simp only [Act.put, List.setIfInBounds_toArray, List.set_cons_zero, List.set_cons_succ]
    refine take 2 7 (v := .slice p2 m.length c2) rfl rfl (by kernel_rfl) (by kernel_rfl) (by kernel_rfl) rfl (fun W hW => exec_move rfl rfl) (by assumption) ?_
    simp only [Act.put, List.setIfInBounds_toArray, List.set_cons_zero, List.set_cons_succ]
    refine take 3 8 (v := .int .i64 (m.length : Int)) rfl rfl (by kernel_rfl) (by kernel_rfl) (by kernel_rfl) rfl (fun W hW => exec_lenb rfl rfl) (by assumption) ?_
    simp only [Act.put, List.setIfInBounds_toArray, List.set_cons_zero, List.set_cons_succ]
    refine take 4 9 (v := .bool false) rfl rfl (by kernel_rfl) (by kernel_rfl) (by kernel_rfl) rfl (fun W hW => exec_bini rfl rfl rfl (hlt0 W)) (by assumption) ?_
    simp only [Act.put, List.setIfInBounds_toArray, List.set_cons_zero, List.set_cons_succ]
    refine take 5 10 (v := .bool false) rfl rfl (by kernel_rfl) (by kernel_rfl) (by kernel_rfl) rfl (fun W hW => exec_move rfl rfl) (by assumption) ?_
    simp only [Act.put, List.setIfInBounds_toArray, List.set_cons_zero, List.set_cons_succ]
    refine takeNot 6 11 rfl rfl (by kernel_rfl) (by kernel_rfl) (by kernel_rfl) rfl (by assumption) ?_
    simp only [Act.put, List.setIfInBounds_toArray, List.set_cons_zero, List.set_cons_succ]
    refine takeNot 7 12 rfl rfl (by kernel_rfl) (by kernel_rfl) (by kernel_rfl) rfl (by assumption) ?_
    simp only [Act.put, List.setIfInBounds_toArray, List.set_cons_zero, List.set_cons_succ]
    refine takeNot 8 13 rfl rfl (by kernel_rfl) (by kernel_rfl) (by kernel_rfl) rfl (by assumption) ?_
    simp only [Act.put, List.setIfInBounds_toArray, List.set_cons_zero, List.set_cons_succ]
    refine takeNot 9 14 rfl rfl (by kernel_rfl) (by kernel_rfl) (by kernel_rfl) rfl (by assumption) ?_
    simp only [Act.put, List.setIfInBounds_toArray, List.set_cons_zero, List.set_cons_succ]
    refine takeNot 10 15 rfl rfl (by kernel_rfl) (by kernel_rfl) (by kernel_rfl) rfl (by assumption) ?_
    simp only [Act.put, List.setIfInBounds_toArray, List.set_cons_zero, List.set_cons_succ]
    refine takeNot 11 16 rfl rfl (by kernel_rfl) (by kernel_rfl) (by kernel_rfl) rfl (by assumption) ?_
    simp only [Act.put, List.setIfInBounds_toArray, List.set_cons_zero, List.set_cons_succ]
    refine takeNot 12 17 rfl rfl (by kernel_rfl) (by kernel_rfl) (by kernel_rfl) rfl (by assumption) ?_
    simp only [Act.put, List.setIfInBounds_toArray, List.set_cons_zero, List.set_cons_succ]
    refine takeNot 13 18 rfl rfl (by kernel_rfl) (by kernel_rfl) (by kernel_rfl) rfl (by assumption) ?_
    simp only [Act.put, List.setIfInBounds_toArray, List.set_cons_zero, List.set_cons_succ]
    refine take 14 19 (v := .bool false) rfl rfl (by kernel_rfl) (by kernel_rfl) (by kernel_rfl) rfl (fun W hW => rfl) (by assumption) ?_
    simp only [Act.put, List.setIfInBounds_toArray, List.set_cons_zero, List.set_cons_succ]
    refine take 15 4 (v := .bool false) rfl rfl (by kernel_rfl) (by kernel_rfl) (by kernel_rfl) rfl (fun W hW => exec_assign rfl rfl) (by assumption) ?_
    simp only [Act.put, List.setIfInBounds_toArray, List.set_cons_zero, List.set_cons_succ]
    refine done (by kernel_rfl) ?_ _
    have HS := Lib.hid hS
    clear hS hlt0
    go_wp2
    go_ret
    exact ⟨rfl, HS.out⟩
end Go.Proofs.YthdfedfholmbmaaDoor

namespace Go.Proofs.YthdfedfholmbmaaDoor
theorem all2_of {α β : Type} {f : α → β → Bool} : ∀ {l : List α} {m : List β}, l.length = m.length → (∀ i (h1 : i < l.length) (h2 : i < m.length), f l[i] m[i] = true) → all2 f l m = true
  | [], [], _, _ => rfl
  | [], _ :: _, h, _ => by simp at h
  | _ :: _, [], h, _ => by simp at h
  | a :: x, b :: y, h, g => by
    rw [all2, Bool.and_eq_true]
    exact ⟨g 0 (by simp) (by simp), all2_of (by simpa using h) fun i h1 h2 => g (i + 1) (by simpa using h1) (by simpa using h2)⟩
theorem all2_no {α β : Type} {f : α → β → Bool} : ∀ {l : List α} {m : List β} {j : Nat} (h1 : j < l.length) (h2 : j < m.length), f l[j] m[j] = false → all2 f l m = false
  | [], _, j, h1, _, _ => by simp at h1
  | _ :: _, [], j, _, h2, _ => by simp at h2
  | a :: x, b :: y, 0, _, _, h => by rw [all2, show f a b = false from h]; rfl
  | a :: x, b :: y, j + 1, h1, h2, h => by rw [all2, all2_no (j := j) (by simpa using h1) (by simpa using h2) h, Bool.and_false]
theorem all2_ne {α β : Type} {f : α → β → Bool} {l : List α} {m : List β} (h : l.length ≠ m.length) : all2 f l m = false := by
  cases e : all2 f l m with
  | false => rfl
  | true => exact absurd (all2_len e) h
end Go.Proofs.YthdfedfholmbmaaDoor

namespace Go.Proofs.YthdfedfholmbmaaDoor
open Go.RowKit
theorem nes_bytes (a b : List UInt8) (W : World) : (binOp .neq 9 (.string (strB a)) (.string (strB b))).run Tryd.prog W = .ok (.bool (!decide (a = b))) W := by
  have e : (strB a = strB b) ↔ a = b := strB_inj
  by_cases h : a = b
  · subst h; simp [go_sem]
  · rw [decide_eq_false h]
    simp [go_sem, strB_toList, h]
set_option maxRecDepth 100000 in
set_option maxHeartbeats 32000000 in
theorem alikeL_any : ∀ (v u : V) (w : World) (x y : Array Value), VRd w v x → VRd w u y →
    Calls Tryd.prog 15 #[.agg x, .agg y] w fun e w' => e = .returned (.bool (alikeV v u)) ∧ Below w.heap.size w w' := by
  refine V.ind fun k b n t ks l ih => ?_
  intro u w x y hx hy
  cases u with
  | mk k' b' n' t' ks' l' =>
  have hal : alikeV (.mk k b n t ks l) (.mk k' b' n' t' ks' l') = (decide (k = k') && decide (b = b') && decide (n = n') && decide (t = t') && decide (ks = ks') && alikeVs l l') := by rw [alikeV]; rfl
  rw [hal]
  clear hal
  obtain ⟨pk, ck, pl, cl, rfl, htx, hk1, hl1⟩ := VRd_iff.1 hx
  obtain ⟨qk, dk, ql, dl, rfl, hty, hk2, hl2⟩ := VRd_iff.1 hy
  clear hx hy
  have z1 : (ks.length : Int) ≤ 140737488355328 := by have := hk1.2.1.1; omega
  have z2 : (l.length : Int) ≤ 140737488355328 := by have := hl1.1.2.1.1; omega
  have z3 : (ks'.length : Int) ≤ 140737488355328 := by have := hk2.2.1.1; omega
  have z4 : (l'.length : Int) ≤ 140737488355328 := by have := hl2.1.2.1.1; omega
  have hb1 := below_new (w := w) (.cells #[.int .i64 k, .bool b, .int .i64 n, .string (strB t), .slice pk ks.length ck, .slice pl l.length cl] 41)
  have hb2 := below_new (w := w.alloc (.cells #[.int .i64 k, .bool b, .int .i64 n, .string (strB t), .slice pk ks.length ck, .slice pl l.length cl] 41)) (.cells #[.int .i64 k', .bool b', .int .i64 n', .string (strB t'), .slice qk ks'.length dk, .slice ql l'.length dl] 41)
  have hbc : Below w.heap.size w ((w.alloc (.cells #[.int .i64 k, .bool b, .int .i64 n, .string (strB t), .slice pk ks.length ck, .slice pl l.length cl] 41)).alloc (.cells #[.int .i64 k', .bool b', .int .i64 n', .string (strB t'), .slice qk ks'.length dk, .slice ql l'.length dl] 41)) := below_trans hb1 hb2
  have hx8 := belowBlk hb2 (by simp) (heap_alloc_new w (.cells #[.int .i64 k, .bool b, .int .i64 n, .string (strB t), .slice pk ks.length ck, .slice pl l.length cl] 41))
  have hx9 := heap_alloc_new (w.alloc (.cells #[.int .i64 k, .bool b, .int .i64 n, .string (strB t), .slice pk ks.length ck, .slice pl l.length cl] 41)) (.cells #[.int .i64 k', .bool b', .int .i64 n', .string (strB t'), .slice qk ks'.length dk, .slice ql l'.length dl] 41)
  simp only [World.size_alloc] at hx9
  have HG := Lib.hid (And.intro hx8 hx9)
  have HB := Lib.hid hbc
  have HIH := Lib.hid (fun (a : V) (ha : a ∈ l) => ih a ha)
  have HK1 := Lib.hid (hk1.below hbc)
  have HK2 := Lib.hid (hk2.below hbc)
  have HL1 := Lib.hid (hl1.below hbc)
  have HL2 := Lib.hid (hl2.below hbc)
  clear ih hk1 hk2 hl1 hl2 hb1 hb2 hbc hx8 hx9 htx hty
  by_cases h0 : k = k'
  rotate_left
  · have f0 : (k != k') = true := by rw [bne_iff_ne]; exact h0
    have HNE := Lib.hid h0
    clear h0
    go_enter Tryd.func15, Tryd.ntmps15
    go_wp2
    go_ret
    exact ⟨by simp [HNE.out], HB.out⟩
  subst h0
  by_cases h1 : b = b'
  rotate_left
  · have HNE := Lib.hid h1
    cases b <;> cases b' <;> first | exact absurd rfl h1 | skip
    all_goals
      clear h1
      go_enter Tryd.func15, Tryd.ntmps15
      go_wp2
      go_ret
      exact ⟨by simp [HNE.out], HB.out⟩
  subst h1
  by_cases h2 : n = n'
  rotate_left
  · have f0 : (n != n') = true := by rw [bne_iff_ne]; exact h2
    have HNE := Lib.hid h2
    clear h2
    go_enter Tryd.func15, Tryd.ntmps15
    go_wp2
    go_ret
    exact ⟨by simp [HNE.out], HB.out⟩
  subst h2
  by_cases h3 : t = t'
  rotate_left
  · have f0 : ((strB t).toList == (strB t').toList) = false := by rw [strB_toList, strB_toList, beq_eq_false_iff_ne]; exact h3
    have f1 : ((strB t).toList != (strB t').toList) = true := by rw [bne, f0]; rfl
    have HNE := Lib.hid h3
    clear h3
    generalize strB t = s1 at *
    generalize strB t' = s2 at *
    go_enter Tryd.func15, Tryd.ntmps15
    go_wp2
    go_ret
    exact ⟨by simp [HNE.out], HB.out⟩
  subst h3
  by_cases h4 : ks.length = ks'.length
  rotate_left
  · have f0 : ((ks.length : Int) != (ks'.length : Int)) = true := by rw [bne_iff_ne]; omega
    have HNE := Lib.hid (show ¬ ks = ks' from fun e => h4 (by rw [e]))
    clear h4
    go_enter Tryd.func15, Tryd.ntmps15
    go_wp2
    go_ret
    exact ⟨by simp [HNE.out], HB.out⟩
  by_cases h5 : l.length = l'.length
  rotate_left
  · have f0 : ((l.length : Int) != (l'.length : Int)) = true := by rw [bne_iff_ne]; omega
    have HNE := Lib.hid (show alikeVs l l' = false from by rw [alikeVs_all2, all2_ne h5])
    have f1 : ((ks.length : Int) != (ks'.length : Int)) = false := by rw [h4]; simp
    clear h5 h4
    go_enter Tryd.func15, Tryd.ntmps15
    go_wp2
    go_ret
    exact ⟨by simp [HNE.out], HB.out⟩
  have f0 : ((ks.length : Int) != (ks'.length : Int)) = false := by rw [h4]; simp
  have f1 : ((l.length : Int) != (l'.length : Int)) = false := by rw [h5]; simp
  have HLK := Lib.hid h4
  have HLL := Lib.hid h5
  clear h4 h5
  simp only [decide_true, Bool.true_and]
  go_enter Tryd.func15, Tryd.ntmps15
  go_wp2
  generalize hW0 : (w.alloc (.cells #[.int .i64 k, .bool b, .int .i64 n, .string (strB t), .slice pk ks.length ck, .slice pl l.length cl] 41)).alloc (.cells #[.int .i64 k, .bool b, .int .i64 n, .string (strB t), .slice qk ks'.length dk, .slice ql l'.length dl] 41) = W0 at *
  clear hW0
  go_loopw [5] (fun i W => ∃ j : Nat, j ≤ ks.length ∧ i = .int .i64 (j : Int) ∧ Hid (ks.take j = ks'.take j ∧ Below W0.heap.size W0 W)) (fun i _ => ks.length - (intOf i).toNat)
  case atStart => exact ⟨0, Nat.zero_le _, rfl, Lib.hid ⟨by simp, Below.refl _ _⟩⟩
  case round =>
    obtain ⟨j, hj, rfl, HI⟩ := hrel
    obtain ⟨hg8, hg9⟩ := HG.out
    have p4 := cellOf (o := 4) (belowBlk HI.out.2 (Array.getElem?_eq_some_iff.1 hg8).1 hg8) rfl
    clear hg8 hg9
    by_cases hlt : j < ks.length
    · have hlt1 : j + 1 ≤ ks.length := hlt
      have hlt2 : j < ks'.length := by rw [← HLK.out]; exact hlt
      obtain ⟨bk, ok, rfl, q0, _⟩ := HK1.out.get hlt
      obtain ⟨bk', ok', rfl, q1, _⟩ := HK2.out.get hlt2
      have hstep : ks[j] = ks'[j] → ks.take (j + 1) = ks'.take (j + 1) := fun e => by rw [List.take_succ_eq_append_getElem hlt, List.take_succ_eq_append_getElem hlt2, HI.out.1, e]
      have hdiff : ks[j] ≠ ks'[j] → ks ≠ ks' := fun e e2 => by subst e2; exact e rfl
      have hnes := nes_bytes ks[j] ks'[j]
      generalize ks[j] = a1 at *
      generalize ks'[j] = a2 at *
      have hS0 : Below W0.heap.size W0 wr.drew := HI.out.2.drew
      have hix : ∀ W' : World, (Instr.indexAt 38 (.slice (some ⟨bk, ok, none⟩) ks.length ck) (.int .i64 (j : Int))).run Tryd.prog W' = .ok (.pointer (some ⟨bk, ok + j, none⟩)) W' := by intro W'; simp [go_sem, hlt]
      have hiy : ∀ W' : World, (Instr.indexAt 38 (.slice (some ⟨bk', ok', none⟩) ks'.length dk) (.int .i64 (j : Int))).run Tryd.prog W' = .ok (.pointer (some ⟨bk', ok' + j, none⟩)) W' := by intro W'; simp [go_sem, hlt2]
      have hf4 : ∀ (g : Nat) (W' : World), (Instr.fieldAt 41 (.pointer (some ⟨g, 0, none⟩)) 4).run Tryd.prog W' = .ok (.pointer (some ⟨g, 4, none⟩)) W' := by intro g W'; simp [go_sem]
      have HX := Lib.hid (And.intro q0 (And.intro q1 (And.intro hstep (And.intro hdiff (And.intro hnes (And.intro hS0 (And.intro hix (And.intro hiy hf4))))))))
      clear q0 q1 hstep hdiff hnes hS0 hix hiy hf4 HI
      go_wp2
      obtain ⟨q0, q1, hstep, hdiff, hnes, hS0, hix, hiy, hf4⟩ := HX.out
      obtain ⟨hg8, hg9⟩ := HG.out
      refine plain_region_draws (fun W => Below W0.heap.size W0 W) (by kernel_rfl) hS0 (fun hS => ?_)
      by_cases he : a1 = a2
      · have hne : ∀ W, (binOp .neq 9 (.string (strB a1)) (.string (strB a2))).run Tryd.prog W = .ok (.bool false) W := fun W => by rw [hnes, decide_eq_true he]; rfl
        refine take 0 58 (v := .pointer (some ⟨w.heap.size, 4, none⟩)) rfl rfl (by kernel_rfl) (by kernel_rfl) (by kernel_rfl) rfl (fun W hW => exec_fieldAddr rfl rfl (hf4 _ W)) (by assumption) ?_
        simp only [Act.put, List.setIfInBounds_toArray, List.set_cons_zero, List.set_cons_succ]
        refine take 1 59 (v := .slice (some ⟨bk, ok, none⟩) ks.length ck) rfl rfl (by kernel_rfl) (by kernel_rfl) (by kernel_rfl) rfl (fun W hW => exec_load rfl rfl (ld_cell Tryd.underlying38 rfl hW hg8 rfl)) (by assumption) ?_
        simp only [Act.put, List.setIfInBounds_toArray, List.set_cons_zero, List.set_cons_succ]
        refine take 2 60 (v := .int .i64 (j : Int)) rfl rfl (by kernel_rfl) (by kernel_rfl) (by kernel_rfl) rfl (fun W hW => exec_move rfl rfl) (by assumption) ?_
        simp only [Act.put, List.setIfInBounds_toArray, List.set_cons_zero, List.set_cons_succ]
        refine take 3 61 (v := .pointer (some ⟨bk, ok + j, none⟩)) rfl rfl (by kernel_rfl) (by kernel_rfl) (by kernel_rfl) rfl (fun W hW => exec_indexAddr rfl rfl rfl (hix W)) (by assumption) ?_
        simp only [Act.put, List.setIfInBounds_toArray, List.set_cons_zero, List.set_cons_succ]
        refine take 4 62 (v := .string (strB a1)) rfl rfl (by kernel_rfl) (by kernel_rfl) (by kernel_rfl) rfl (fun W hW => exec_load rfl rfl (run_load1 Tryd.underlying9 rfl (belowCell hW (ltOf q0) q0))) (by assumption) ?_
        simp only [Act.put, List.setIfInBounds_toArray, List.set_cons_zero, List.set_cons_succ]
        refine take 5 63 (v := .pointer (some ⟨w.heap.size + 1, 4, none⟩)) rfl rfl (by kernel_rfl) (by kernel_rfl) (by kernel_rfl) rfl (fun W hW => exec_fieldAddr rfl rfl (hf4 _ W)) (by assumption) ?_
        simp only [Act.put, List.setIfInBounds_toArray, List.set_cons_zero, List.set_cons_succ]
        refine take 6 64 (v := .slice (some ⟨bk', ok', none⟩) ks'.length dk) rfl rfl (by kernel_rfl) (by kernel_rfl) (by kernel_rfl) rfl (fun W hW => exec_load rfl rfl (ld_cell Tryd.underlying38 rfl hW hg9 rfl)) (by assumption) ?_
        simp only [Act.put, List.setIfInBounds_toArray, List.set_cons_zero, List.set_cons_succ]
        refine take 7 65 (v := .int .i64 (j : Int)) rfl rfl (by kernel_rfl) (by kernel_rfl) (by kernel_rfl) rfl (fun W hW => exec_move rfl rfl) (by assumption) ?_
        simp only [Act.put, List.setIfInBounds_toArray, List.set_cons_zero, List.set_cons_succ]
        refine take 8 66 (v := .pointer (some ⟨bk', ok' + j, none⟩)) rfl rfl (by kernel_rfl) (by kernel_rfl) (by kernel_rfl) rfl (fun W hW => exec_indexAddr rfl rfl rfl (hiy W)) (by assumption) ?_
        simp only [Act.put, List.setIfInBounds_toArray, List.set_cons_zero, List.set_cons_succ]
        refine take 9 67 (v := .string (strB a2)) rfl rfl (by kernel_rfl) (by kernel_rfl) (by kernel_rfl) rfl (fun W hW => exec_load rfl rfl (run_load1 Tryd.underlying9 rfl (belowCell hW (ltOf q1) q1))) (by assumption) ?_
        simp only [Act.put, List.setIfInBounds_toArray, List.set_cons_zero, List.set_cons_succ]
        refine take 10 68 (v := .bool false) rfl rfl (by kernel_rfl) (by kernel_rfl) (by kernel_rfl) rfl (fun W hW => exec_bins rfl rfl rfl (hne W)) (by assumption) ?_
        simp only [Act.put, List.setIfInBounds_toArray, List.set_cons_zero, List.set_cons_succ]
        refine done (by kernel_rfl) ?_ _
        have HS := Lib.hid (And.intro (hstep he) hS)
        clear q0 q1 hstep hdiff hnes hS0 hix hiy hf4 hg8 hg9 hne hS he HX
        go_wp2
        go_roundw
        case rel => exact ⟨j + 1, hlt1, by go_num, HS⟩
        case measure => simp [intOf]; omega
      · have hne : ∀ W, (binOp .neq 9 (.string (strB a1)) (.string (strB a2))).run Tryd.prog W = .ok (.bool true) W := fun W => by rw [hnes, decide_eq_false he]; rfl
        refine take 0 58 (v := .pointer (some ⟨w.heap.size, 4, none⟩)) rfl rfl (by kernel_rfl) (by kernel_rfl) (by kernel_rfl) rfl (fun W hW => exec_fieldAddr rfl rfl (hf4 _ W)) (by assumption) ?_
        simp only [Act.put, List.setIfInBounds_toArray, List.set_cons_zero, List.set_cons_succ]
        refine take 1 59 (v := .slice (some ⟨bk, ok, none⟩) ks.length ck) rfl rfl (by kernel_rfl) (by kernel_rfl) (by kernel_rfl) rfl (fun W hW => exec_load rfl rfl (ld_cell Tryd.underlying38 rfl hW hg8 rfl)) (by assumption) ?_
        simp only [Act.put, List.setIfInBounds_toArray, List.set_cons_zero, List.set_cons_succ]
        refine take 2 60 (v := .int .i64 (j : Int)) rfl rfl (by kernel_rfl) (by kernel_rfl) (by kernel_rfl) rfl (fun W hW => exec_move rfl rfl) (by assumption) ?_
        simp only [Act.put, List.setIfInBounds_toArray, List.set_cons_zero, List.set_cons_succ]
        refine take 3 61 (v := .pointer (some ⟨bk, ok + j, none⟩)) rfl rfl (by kernel_rfl) (by kernel_rfl) (by kernel_rfl) rfl (fun W hW => exec_indexAddr rfl rfl rfl (hix W)) (by assumption) ?_
        simp only [Act.put, List.setIfInBounds_toArray, List.set_cons_zero, List.set_cons_succ]
        refine take 4 62 (v := .string (strB a1)) rfl rfl (by kernel_rfl) (by kernel_rfl) (by kernel_rfl) rfl (fun W hW => exec_load rfl rfl (run_load1 Tryd.underlying9 rfl (belowCell hW (ltOf q0) q0))) (by assumption) ?_
        simp only [Act.put, List.setIfInBounds_toArray, List.set_cons_zero, List.set_cons_succ]
        refine take 5 63 (v := .pointer (some ⟨w.heap.size + 1, 4, none⟩)) rfl rfl (by kernel_rfl) (by kernel_rfl) (by kernel_rfl) rfl (fun W hW => exec_fieldAddr rfl rfl (hf4 _ W)) (by assumption) ?_
        simp only [Act.put, List.setIfInBounds_toArray, List.set_cons_zero, List.set_cons_succ]
        refine take 6 64 (v := .slice (some ⟨bk', ok', none⟩) ks'.length dk) rfl rfl (by kernel_rfl) (by kernel_rfl) (by kernel_rfl) rfl (fun W hW => exec_load rfl rfl (ld_cell Tryd.underlying38 rfl hW hg9 rfl)) (by assumption) ?_
        simp only [Act.put, List.setIfInBounds_toArray, List.set_cons_zero, List.set_cons_succ]
        refine take 7 65 (v := .int .i64 (j : Int)) rfl rfl (by kernel_rfl) (by kernel_rfl) (by kernel_rfl) rfl (fun W hW => exec_move rfl rfl) (by assumption) ?_
        simp only [Act.put, List.setIfInBounds_toArray, List.set_cons_zero, List.set_cons_succ]
        refine take 8 66 (v := .pointer (some ⟨bk', ok' + j, none⟩)) rfl rfl (by kernel_rfl) (by kernel_rfl) (by kernel_rfl) rfl (fun W hW => exec_indexAddr rfl rfl rfl (hiy W)) (by assumption) ?_
        simp only [Act.put, List.setIfInBounds_toArray, List.set_cons_zero, List.set_cons_succ]
        refine take 9 67 (v := .string (strB a2)) rfl rfl (by kernel_rfl) (by kernel_rfl) (by kernel_rfl) rfl (fun W hW => exec_load rfl rfl (run_load1 Tryd.underlying9 rfl (belowCell hW (ltOf q1) q1))) (by assumption) ?_
        simp only [Act.put, List.setIfInBounds_toArray, List.set_cons_zero, List.set_cons_succ]
        refine take 10 68 (v := .bool true) rfl rfl (by kernel_rfl) (by kernel_rfl) (by kernel_rfl) rfl (fun W hW => exec_bins rfl rfl rfl (hne W)) (by assumption) ?_
        simp only [Act.put, List.setIfInBounds_toArray, List.set_cons_zero, List.set_cons_succ]
        refine done (by kernel_rfl) ?_ _
        have HS := Lib.hid (And.intro (hdiff he) hS)
        clear q0 q1 hstep hdiff hnes hS0 hix hiy hf4 hg8 hg9 hne hS he HX
        go_wp2
        go_ret
        exact ⟨by rw [decide_eq_false HS.out.1, Bool.false_and]; rfl, below_trans HB.out HS.out.2⟩
    · obtain rfl : j = ks.length := by omega
      have HKE := Lib.hid (show ks = ks' from by have h := HI.out.1; rw [List.take_length, HLK.out, List.take_length] at h; exact h)
      have HW1 := Lib.hid HI.out.2
      clear HI
      go_wp2
      go_loopw [6] (fun i W => ∃ j : Nat, j ≤ l.length ∧ i = .int .i64 (j : Int) ∧ Hid ((∀ i (h1 : i < l.length) (h2 : i < l'.length), i < j → alikeV l[i] l'[i] = true) ∧ Below W0.heap.size W0 W)) (fun i _ => l.length - (intOf i).toNat)
      case atStart => exact ⟨0, Nat.zero_le _, rfl, Lib.hid ⟨fun i _ _ h => by omega, HW1.out⟩⟩
      case round =>
        clear HW1 p4
        obtain ⟨j, hj, rfl, HI⟩ := hrel
        obtain ⟨hg8, hg9⟩ := HG.out
        have p5 := cellOf (o := 5) (belowBlk HI.out.2 (Array.getElem?_eq_some_iff.1 hg8).1 hg8) rfl
        clear hg8 hg9
        by_cases hlt : j < l.length
        · have hlt1 : j + 1 ≤ l.length := hlt
          have hlt2 : j < l'.length := by rw [← HLL.out]; exact hlt
          obtain ⟨bl, ol, cs, rfl, hs, hc, hv⟩ := HL1.out.grd.get hlt
          obtain ⟨bl', ol', ds, rfl, hs2, hc2, hv2⟩ := HL2.out.grd.get hlt2
          have hcall := fun W (g : Below W0.heap.size W0 W) => HIH.out l[j] (List.getElem_mem hlt) l'[j] W cs ds (hv.below g) (hv2.below g)
          have hno := all2_no (f := alikeV) hlt hlt2
          have hye : alikeV l[j] l'[j] = true → ∀ i (h1 : i < l.length) (h2 : i < l'.length), i < j + 1 → alikeV l[i] l'[i] = true := fun he i h1 h2 h3 => by
            rcases Nat.lt_or_ge i j with h4 | h4
            · exact HI.out.1 i h1 h2 h4
            · have : i = j := by omega
              subst this; exact he
          generalize alikeV l[j] l'[j] = r at *
          have hS0 : Below W0.heap.size W0 wr.drew := HI.out.2.drew
          have hix : ∀ W' : World, (Instr.indexAt 39 (.slice (some ⟨bl, ol, none⟩) l.length cl) (.int .i64 (j : Int))).run Tryd.prog W' = .ok (.pointer (some ⟨bl, ol + j * 6, none⟩)) W' := by intro W'; simp [go_sem, hlt]
          have hiy : ∀ W' : World, (Instr.indexAt 39 (.slice (some ⟨bl', ol', none⟩) l'.length dl) (.int .i64 (j : Int))).run Tryd.prog W' = .ok (.pointer (some ⟨bl', ol' + j * 6, none⟩)) W' := by intro W'; simp [go_sem, hlt2]
          have hf5 : ∀ (g : Nat) (W' : World), (Instr.fieldAt 41 (.pointer (some ⟨g, 0, none⟩)) 5).run Tryd.prog W' = .ok (.pointer (some ⟨g, 5, none⟩)) W' := by intro g W'; simp [go_sem]
          have hlx := fun W (g : Below W0.heap.size W0 W) => StT.load (P := Tryd.prog) (W := W) (g := bl) (o := ol + j * 6) st_val hs fun i u hu => belowCell g (ltOf (hc i u hu)) (hc i u hu)
          have hly := fun W (g : Below W0.heap.size W0 W) => StT.load (P := Tryd.prog) (W := W) (g := bl') (o := ol' + j * 6) st_val hs2 fun i u hu => belowCell g (ltOf (hc2 i u hu)) (hc2 i u hu)
          have HX := Lib.hid (And.intro hcall (And.intro hno (And.intro hye (And.intro hS0 (And.intro hix (And.intro hiy (And.intro hf5 (And.intro hlx hly))))))))
          clear hcall hno hye hS0 hix hiy hf5 hlx hly HI hs hc hv hs2 hc2 hv2
          go_wp2
          obtain ⟨hcall, hno, hye, hS0, hix, hiy, hf5, hlx, hly⟩ := HX.out
          obtain ⟨hg8, hg9⟩ := HG.out
          refine plain_region_draws (fun W => Below W0.heap.size W0 W) (by kernel_rfl) hS0 (fun hS => ?_)
          refine take 0 76 (v := .pointer (some ⟨w.heap.size, 5, none⟩)) rfl rfl (by kernel_rfl) (by kernel_rfl) (by kernel_rfl) rfl (fun W hW => exec_fieldAddr rfl rfl (hf5 _ W)) (by assumption) ?_
          simp only [Act.put, List.setIfInBounds_toArray, List.set_cons_zero, List.set_cons_succ]
          refine take 1 77 (v := .slice (some ⟨bl, ol, none⟩) l.length cl) rfl rfl (by kernel_rfl) (by kernel_rfl) (by kernel_rfl) rfl (fun W hW => exec_load rfl rfl (ld_cell Tryd.underlying39 rfl hW hg8 rfl)) (by assumption) ?_
          simp only [Act.put, List.setIfInBounds_toArray, List.set_cons_zero, List.set_cons_succ]
          refine take 2 78 (v := .int .i64 (j : Int)) rfl rfl (by kernel_rfl) (by kernel_rfl) (by kernel_rfl) rfl (fun W hW => exec_move rfl rfl) (by assumption) ?_
          simp only [Act.put, List.setIfInBounds_toArray, List.set_cons_zero, List.set_cons_succ]
          refine take 3 79 (v := .pointer (some ⟨bl, ol + j * 6, none⟩)) rfl rfl (by kernel_rfl) (by kernel_rfl) (by kernel_rfl) rfl (fun W hW => exec_indexAddr rfl rfl rfl (hix W)) (by assumption) ?_
          simp only [Act.put, List.setIfInBounds_toArray, List.set_cons_zero, List.set_cons_succ]
          refine take 4 80 (v := .agg cs) rfl rfl (by kernel_rfl) (by kernel_rfl) (by kernel_rfl) rfl (fun W hW => exec_load rfl rfl (hlx W hW)) (by assumption) ?_
          simp only [Act.put, List.setIfInBounds_toArray, List.set_cons_zero, List.set_cons_succ]
          refine take 5 81 (v := .pointer (some ⟨w.heap.size + 1, 5, none⟩)) rfl rfl (by kernel_rfl) (by kernel_rfl) (by kernel_rfl) rfl (fun W hW => exec_fieldAddr rfl rfl (hf5 _ W)) (by assumption) ?_
          simp only [Act.put, List.setIfInBounds_toArray, List.set_cons_zero, List.set_cons_succ]
          refine take 6 82 (v := .slice (some ⟨bl', ol', none⟩) l'.length dl) rfl rfl (by kernel_rfl) (by kernel_rfl) (by kernel_rfl) rfl (fun W hW => exec_load rfl rfl (ld_cell Tryd.underlying39 rfl hW hg9 rfl)) (by assumption) ?_
          simp only [Act.put, List.setIfInBounds_toArray, List.set_cons_zero, List.set_cons_succ]
          refine take 7 83 (v := .int .i64 (j : Int)) rfl rfl (by kernel_rfl) (by kernel_rfl) (by kernel_rfl) rfl (fun W hW => exec_move rfl rfl) (by assumption) ?_
          simp only [Act.put, List.setIfInBounds_toArray, List.set_cons_zero, List.set_cons_succ]
          refine take 8 84 (v := .pointer (some ⟨bl', ol' + j * 6, none⟩)) rfl rfl (by kernel_rfl) (by kernel_rfl) (by kernel_rfl) rfl (fun W hW => exec_indexAddr rfl rfl rfl (hiy W)) (by assumption) ?_
          simp only [Act.put, List.setIfInBounds_toArray, List.set_cons_zero, List.set_cons_succ]
          refine take 9 85 (v := .agg ds) rfl rfl (by kernel_rfl) (by kernel_rfl) (by kernel_rfl) rfl (fun W hW => exec_load rfl rfl (hly W hW)) (by assumption) ?_
          simp only [Act.put, List.setIfInBounds_toArray, List.set_cons_zero, List.set_cons_succ]
          refine onlyCall 10 86 rfl rfl (by kernel_rfl) rfl (exec_call [.agg cs, .agg ds] rfl rfl Tryd.func15 (by kernel_rfl) (by kernel_rfl)) ?_
          refine (hcall _ hS).mono ?_
          rintro e W8 ⟨rfl, hb8⟩
          have hS8 : Below W0.heap.size W0 W8 := below_trans hS hb8
          refine ⟨_, rfl, .inr hS8, ?_⟩
          simp only [Act.put, List.setIfInBounds_toArray, List.set_cons_zero, List.set_cons_succ]
          refine take 11 87 (v := .bool (!r)) rfl rfl (by kernel_rfl) (by kernel_rfl) (by kernel_rfl) rfl (fun W hW => exec_unot rfl rfl) (by assumption) ?_
          simp only [Act.put, List.setIfInBounds_toArray, List.set_cons_zero, List.set_cons_succ]
          refine done (by kernel_rfl) ?_ _
          have HS := Lib.hid hS8
          have HF := Lib.hid (And.intro hno hye)
          clear hcall hno hye hS0 hix hiy hf5 hlx hly hg8 hg9 hS hS8 hb8 HX
          cases r
          · go_wp2
            go_ret
            exact ⟨by rw [alikeVs_all2, HF.out.1 (by simp), Bool.and_false]; rfl, below_trans HB.out HS.out⟩
          · go_wp2
            go_roundw
            case rel => exact ⟨j + 1, hlt1, by go_num, Lib.hid ⟨HF.out.2 (by simp), HS.out⟩⟩
            case measure => simp [intOf]; omega
        · obtain rfl : j = l.length := by omega
          have HFF := Lib.hid (And.intro (all2_of (f := alikeV) HLL.out fun i h1 h2 => HI.out.1 i h1 h2 h1) HI.out.2)
          clear HI
          go_wp2
          go_ret
          exact ⟨by rw [decide_eq_true HKE.out, alikeVs_all2, HFF.out.1]; rfl, below_trans HB.out HFF.out.2⟩
end Go.Proofs.YthdfedfholmbmaaDoor

namespace Go.Proofs.YthdfedfholmbmaaDoor
open Go.RowKit
def SizeLo (left tot r : Nat) : Prop := (tot ≤ left → r = tot) ∧ (left < tot → left < r) ∧ r ≤ left + 281474976710657
def kSum (ks : List (List UInt8)) : Nat := (ks.map List.length).sum
theorem kSum_step {ks : List (List UInt8)} {j : Nat} (h : j < ks.length) : kSum (ks.take (j + 1)) = kSum (ks.take j) + ks[j].length := by
  unfold kSum; rw [List.take_succ_eq_append_getElem h, List.map_append, List.sum_append]; simp
theorem kSum_le (ks : List (List UInt8)) (j : Nat) : kSum (ks.take j) ≤ kSum ks := by
  have e : ks.take j ++ ks.drop j = ks := List.take_append_drop _ _
  have := congrArg kSum e
  unfold kSum at *
  rw [List.map_append, List.sum_append] at this
  omega
theorem tVs_step {l : List V} {j : Nat} (h : j < l.length) : totVs (l.take (j + 1)) = totVs (l.take j) + totV l[j] := by
  rw [List.take_succ_eq_append_getElem h, totVs_append]; simp [totVs]
theorem tVs_le (l : List V) (j : Nat) : totVs (l.take j) ≤ totVs l := by
  have e : l.take j ++ l.drop j = l := List.take_append_drop _ _
  have := congrArg totVs e
  rw [totVs_append] at this
  omega
set_option maxRecDepth 100000 in
set_option maxHeartbeats 8000000 in
theorem vsz_any : ∀ (v : V) (left : Nat), left ≤ 3000 → ∀ (w : World) (x : Array Value), VRd w v x →
    Calls Tryd.prog 12 #[.agg x, .int .i64 (left : Int)] w fun e w' => (∃ r : Nat, e = .returned (.int .i64 (r : Int)) ∧ SizeLo left (totV v) r) ∧ Below w.heap.size w w' := by
  refine V.ind fun k b n t ks l ih => ?_
  intro left hle w x hx
  rw [totV_mk]
  obtain ⟨pk, ck, pl, cl, rfl, htx, hk1, hl1⟩ := VRd_iff.1 hx
  have hT := OneB.start w #[.int .i64 k, .bool b, .int .i64 n, .string (strB t), .slice pk ks.length ck, .slice pl l.length cl]
  have z1 : (ks.length : Int) ≤ 140737488355328 := by have := hk1.2.1.1; omega
  have z2 : (l.length : Int) ≤ 140737488355328 := by have := hl1.1.2.1.1; omega
  have z3 : (t.length : Int) ≤ 140737488355328 := by omega
  have z4 : (left : Int) ≤ 3000 := by omega
  have hst : (strB t).size = t.length := rfl
  have HI := Lib.hid (fun (a : V) (ha : a ∈ l) => ih a ha)
  have HK := Lib.hid hk1
  have HL := Lib.hid hl1
  have HT := Lib.hid hT
  clear ih hx hk1 hl1 hT hle
  go_enter Tryd.func12, Tryd.ntmps12
  go_wp2
  go_loopw [5, 6] (fun m i W => ∃ j nn : Nat, j ≤ ks.length ∧ i = .int .i64 (j : Int) ∧ m = .int .i64 (nn : Int) ∧ nn ≤ left + 281474976710657 ∧ Hid (nn = 1 + t.length + j + kSum (ks.take j)) ∧ Hid (OneB w W #[.int .i64 k, .bool b, .int .i64 n, .string (strB t), .slice pk ks.length ck, .slice pl l.length cl])) (fun _ i _ => ks.length - (intOf i).toNat)
  case atStart =>
    exact ⟨0, 1 + t.length, Nat.zero_le _, rfl, by go_num, by omega, Lib.hid (by simp [kSum]), HT⟩
  case round =>
    obtain ⟨j, nn, hj, rfl, rfl, hnb, HS, HT2⟩ := hrel
    clear HT
    have p4 := cellOf (o := 4) HT2.out.1 rfl
    have z5 : (nn : Int) ≤ 281474976713657 := by omega
    by_cases hlt : j < ks.length
    · have hlt1 : j + 1 ≤ ks.length := hlt
      by_cases hle : nn ≤ left
      · have hle1 : (nn : Int) ≤ (left : Int) := by omega
        obtain ⟨bk, ok, rfl, q0, hsl⟩ := (HK.out.below HT2.out.2).get hlt
        have hstep := kSum_step hlt
        generalize ks[j] = kk at *
        have hszk : (strB kk).size = kk.length := rfl
        have z6 : (kk.length : Int) ≤ 140737488355328 := by omega
        have HF := Lib.hid (And.intro hstep HS.out)
        clear hstep HS
        go_wp2
        go_roundw
        case rel => exact ⟨j + 1, nn + 1 + kk.length, hlt1, by go_num, by go_num, by omega, Lib.hid (by have := HF.out.1; have := HF.out.2; omega), HT2⟩
        case measure => simp [intOf]; omega
      · have hle1 : ¬ (nn : Int) ≤ (left : Int) := by omega
        have hle0 : decide ((nn : Int) ≤ (left : Int)) = false := by simpa using hle1
        have hsum := kSum_le ks j
        have HF := Lib.hid (And.intro hsum (And.intro HS.out hle))
        clear hsum HS
        go_wp2
        go_loopw [5, 7] (fun m i W => ∃ j2 n2 : Nat, j2 ≤ l.length ∧ i = .int .i64 (j2 : Int) ∧ m = .int .i64 (n2 : Int) ∧ n2 ≤ left + 281474976710657 ∧ Hid ((1 + t.length + ks.length + kSum ks + totVs (l.take j2) ≤ left → n2 = 1 + t.length + ks.length + kSum ks + totVs (l.take j2)) ∧ (left < 1 + t.length + ks.length + kSum ks + totVs (l.take j2) → left < n2)) ∧ Hid (OneB w W #[.int .i64 k, .bool b, .int .i64 n, .string (strB t), .slice pk ks.length ck, .slice pl l.length cl])) (fun _ i _ => l.length - (intOf i).toNat)
        case atStart => exact ⟨0, nn, Nat.zero_le _, rfl, rfl, hnb, Lib.hid (by
          have h := HF.out
          rw [List.take_zero]
          simp only [totVs]
          exact ⟨fun h2 => by omega, fun _ => by omega⟩), HT2⟩
        case round =>
          clear p4 HT2 HF hnb z5
          obtain ⟨j2, n2, hj2, rfl, rfl, hnb2, HQ, HT3⟩ := hrel
          have p5 := cellOf (o := 5) HT3.out.1 rfl
          have z6 : (n2 : Int) ≤ 281474976713657 := by omega
          by_cases hlt2 : j2 < l.length
          · have hlt3 : j2 + 1 ≤ l.length := hlt2
            by_cases hle2 : n2 ≤ left
            · have hle3 : (n2 : Int) ≤ (left : Int) := by omega
              obtain ⟨g1, o1, pk1, ck1, pl1, cl1, rfl, ⟨a0, a1, a2, a3, a4, a5⟩, hv1⟩ := (HL.out.below HT3.out.2).at hlt2
              have hstep := tVs_step hlt2
              have hsub : ((left : Int) - (n2 : Int)) = ((left - n2 : Nat) : Int) := by omega
              have hcall := HI.out l[j2] (List.getElem_mem hlt2) (left - n2) (by omega) wr _ hv1
              rw [← hsub] at hcall
              generalize l[j2] = s1 at *
              have HD := Lib.hid (And.intro hcall (And.intro hstep (And.intro HQ.out HT3.out)))
              clear hcall hstep hv1 hsub
              go_wp2_with (go_at_call 12
                           (
                             refine HD.out.1.mono ?_
                             rintro e w3 ⟨⟨r, rfl, hr⟩, hb3⟩
                             have HG := Lib.hid (And.intro hr (HD.out.2.2.2.below hb3))
                             have z7 : (r : Int) ≤ 281474976713657 := by have := hr.2.2; omega
                             clear hr hb3))
              go_roundw
              case rel =>
                obtain ⟨⟨h1, h2, h3⟩, hT4⟩ := HG.out
                obtain ⟨_, hstep, ⟨g1, g2⟩, _⟩ := HD.out
                refine ⟨j2 + 1, n2 + r, hlt3, by go_num, by go_num, by omega, Lib.hid ⟨fun h => ?_, fun h => ?_⟩, Lib.hid hT4⟩
                · rw [hstep] at h ⊢
                  have e1 := g1 (by omega)
                  have e2 := h1 (by omega)
                  omega
                · rw [hstep] at h
                  by_cases hc : 1 + t.length + ks.length + kSum ks + totVs (l.take j2) ≤ left
                  · have e1 := g1 hc
                    have e2 := h2 (by omega)
                    omega
                  · have := g2 (by omega); omega
              case measure => simp [intOf]; omega
            · have hle3 : ¬ (n2 : Int) ≤ (left : Int) := by omega
              have hle4 : decide ((n2 : Int) ≤ (left : Int)) = false := by simpa using hle3
              have hsum := tVs_le l j2
              have HF2 := Lib.hid (And.intro HQ.out (And.intro hsum (And.intro HT3.out.2 hle2)))
              clear hsum
              go_wp2
              go_ret
              obtain ⟨⟨g1, g2⟩, hsum, hbb, hgt⟩ := HF2.out
              refine ⟨⟨n2, rfl, ⟨fun h => ?_, fun h => by omega, hnb2⟩⟩, hbb⟩
              exact absurd (g1 (by unfold kSum; omega)) (by unfold kSum; omega)
          · obtain rfl : j2 = l.length := by omega
            have HF2 := Lib.hid (And.intro HQ.out HT3.out.2)
            go_wp2
            go_ret
            obtain ⟨⟨g1, g2⟩, hbb⟩ := HF2.out
            rw [List.take_length] at g1 g2
            exact ⟨⟨n2, rfl, ⟨g1, g2, hnb2⟩⟩, hbb⟩
    · obtain rfl : j = ks.length := by omega
      have HF := Lib.hid HS.out
      clear HS
      go_wp2
      go_loopw [5, 7] (fun m i W => ∃ j2 n2 : Nat, j2 ≤ l.length ∧ i = .int .i64 (j2 : Int) ∧ m = .int .i64 (n2 : Int) ∧ n2 ≤ left + 281474976710657 ∧ Hid ((1 + t.length + ks.length + kSum ks + totVs (l.take j2) ≤ left → n2 = 1 + t.length + ks.length + kSum ks + totVs (l.take j2)) ∧ (left < 1 + t.length + ks.length + kSum ks + totVs (l.take j2) → left < n2)) ∧ Hid (OneB w W #[.int .i64 k, .bool b, .int .i64 n, .string (strB t), .slice pk ks.length ck, .slice pl l.length cl])) (fun _ i _ => l.length - (intOf i).toNat)
      case atStart => exact ⟨0, nn, Nat.zero_le _, rfl, rfl, hnb, Lib.hid (by
        have h := HF.out
        rw [List.take_zero]
        simp only [totVs]
        rw [List.take_length] at h; exact ⟨fun h2 => by omega, fun _ => by omega⟩), HT2⟩
      case round =>
        clear p4 HT2 HF hnb z5
        obtain ⟨j2, n2, hj2, rfl, rfl, hnb2, HQ, HT3⟩ := hrel
        have p5 := cellOf (o := 5) HT3.out.1 rfl
        have z6 : (n2 : Int) ≤ 281474976713657 := by omega
        by_cases hlt2 : j2 < l.length
        · have hlt3 : j2 + 1 ≤ l.length := hlt2
          by_cases hle2 : n2 ≤ left
          · have hle3 : (n2 : Int) ≤ (left : Int) := by omega
            obtain ⟨g1, o1, pk1, ck1, pl1, cl1, rfl, ⟨a0, a1, a2, a3, a4, a5⟩, hv1⟩ := (HL.out.below HT3.out.2).at hlt2
            have hstep := tVs_step hlt2
            have hsub : ((left : Int) - (n2 : Int)) = ((left - n2 : Nat) : Int) := by omega
            have hcall := HI.out l[j2] (List.getElem_mem hlt2) (left - n2) (by omega) wr _ hv1
            rw [← hsub] at hcall
            generalize l[j2] = s1 at *
            have HD := Lib.hid (And.intro hcall (And.intro hstep (And.intro HQ.out HT3.out)))
            clear hcall hstep hv1 hsub
            go_wp2_with (go_at_call 12
                         (
                           refine HD.out.1.mono ?_
                           rintro e w3 ⟨⟨r, rfl, hr⟩, hb3⟩
                           have HG := Lib.hid (And.intro hr (HD.out.2.2.2.below hb3))
                           have z7 : (r : Int) ≤ 281474976713657 := by have := hr.2.2; omega
                           clear hr hb3))
            go_roundw
            case rel =>
              obtain ⟨⟨h1, h2, h3⟩, hT4⟩ := HG.out
              obtain ⟨_, hstep, ⟨g1, g2⟩, _⟩ := HD.out
              refine ⟨j2 + 1, n2 + r, hlt3, by go_num, by go_num, by omega, Lib.hid ⟨fun h => ?_, fun h => ?_⟩, Lib.hid hT4⟩
              · rw [hstep] at h ⊢
                have e1 := g1 (by omega)
                have e2 := h1 (by omega)
                omega
              · rw [hstep] at h
                by_cases hc : 1 + t.length + ks.length + kSum ks + totVs (l.take j2) ≤ left
                · have e1 := g1 hc
                  have e2 := h2 (by omega)
                  omega
                · have := g2 (by omega); omega
            case measure => simp [intOf]; omega
          · have hle3 : ¬ (n2 : Int) ≤ (left : Int) := by omega
            have hle4 : decide ((n2 : Int) ≤ (left : Int)) = false := by simpa using hle3
            have hsum := tVs_le l j2
            have HF2 := Lib.hid (And.intro HQ.out (And.intro hsum (And.intro HT3.out.2 hle2)))
            clear hsum
            go_wp2
            go_ret
            obtain ⟨⟨g1, g2⟩, hsum, hbb, hgt⟩ := HF2.out
            refine ⟨⟨n2, rfl, ⟨fun h => ?_, fun h => by omega, hnb2⟩⟩, hbb⟩
            exact absurd (g1 (by unfold kSum; omega)) (by unfold kSum; omega)
        · obtain rfl : j2 = l.length := by omega
          have HF2 := Lib.hid (And.intro HQ.out HT3.out.2)
          go_wp2
          go_ret
          obtain ⟨⟨g1, g2⟩, hbb⟩ := HF2.out
          rw [List.take_length] at g1 g2
          exact ⟨⟨n2, rfl, ⟨g1, g2, hnb2⟩⟩, hbb⟩
end Go.Proofs.YthdfedfholmbmaaDoor

namespace Go.Proofs.YthdfedfholmbmaaDoor
open Go.RowKit
theorem rd_len {W : World} {p : Option Addr} {n c : Nat} {l : List UInt8} (h : RdB W (.slice p n c) l) : (n : Int) ≤ 9223372036854775807 := by
  obtain ⟨a1, cap, heq, ⟨hn, hm, hz⟩, _⟩ := h
  cases heq; unfold maxLen at hm; omega
end Go.Proofs.YthdfedfholmbmaaDoor

namespace Go.Proofs.YthdfedfholmbmaaDoor
open Go.RowKit
theorem Out.rd {w : World} {b : List UInt8} {err : Int} {e : Ending} {W' : World} (h : Out w b err e W') : ∃ p c, e = .returned (.tuple #[.slice p b.length c, .int .i64 err]) ∧ RdB W' (.slice p b.length c) b ∧ Below w.heap.size w W' := by
  obtain ⟨o, rfl, ho, hb⟩ := h
  obtain ⟨p, c, rfl, hr⟩ := own_rdB ho
  exact ⟨p, c, rfl, hr, hb⟩
theorem readW_dec {α : Type} {d : Dec α} {ok : α → Bool} {b : List UInt8} {x : α} (h : readW d ok b = some x) : d b = some (x, []) ∧ ok x = true := by
  unfold readW at h
  split at h
  · rename_i y hd
    split at h
    · rename_i hk
      cases h
      exact ⟨hd, hk⟩
    · cases h
  · cases h
theorem readV_tot {b : List UInt8} {x : V} (h : readW (rdVal 64) okV b = some x) : totV x ≤ b.length ∧ rngV x ∧ okV x = true ∧ b = valC x := by
  obtain ⟨h1, h2⟩ := readW_dec h
  obtain ⟨h3, h4⟩ := tot_of (rt_val 64) (df_val 64) (ds_val 64) h1
  exact ⟨by simpa using h3, h4, h2, (readW_some (rt_val 64) h).1⟩
def Lies (g : Nat) (T : TypeId) (x : Array Value) (W : World) : Prop := W.heap[g]? = some (.cells x T (0, 0))
theorem Lies.below {g : Nat} {T : TypeId} {x : Array Value} {W W' : World} (h : Lies g T x W) (b : Below W.heap.size W W') : Lies g T x W' := belowBlk b (Array.getElem?_eq_some_iff.1 h).1 h
theorem Lies.get {g : Nat} {x : Array Value} {W : World} (h : Lies g 41 x W) (hs : x.size = 6) : (loadVar 41 ⟨g, 0, none⟩).run Tryd.prog W = .ok (.agg x) W := StT.get st_val hs h
theorem valC_small {v : V} (hr : rngV v) (ht : totV v ≤ 3000) : (valC v).length ≤ 900000 := by
  have := valC_len v hr (by omega); omega
theorem outV_len {v : V} (hr : rngV v) (ht : totV v ≤ 3000) : (outV v).length ≤ 900000 := by
  unfold outV; split
  · exact valC_small hr ht
  · simp
end Go.Proofs.YthdfedfholmbmaaDoor

namespace Go.Proofs.YthdfedfholmbmaaDoor
open Go.RowKit
theorem he0 (W : World) : (binOp .eql 3 (.int .i64 0) (.int .i64 0)).run Tryd.prog W = .ok (.bool true) W := by simp [go_sem]
theorem he2 (W : World) : (binOp .eql 3 (.int .i64 2) (.int .i64 0)).run Tryd.prog W = .ok (.bool false) W := by simp [go_sem]
theorem hnn (b : Bool) (W : World) : (binOp .neq 4 (.bool b) (.bool b)).run Tryd.prog W = .ok (.bool false) W := by cases b <;> simp [go_sem]
set_option maxRecDepth 100000 in
set_option maxHeartbeats 64000000 in
theorem vback_any {w : World} (hE : Env w) {v u : V} {x y : Array Value} (hx : VRd w v x) (hy : VRd w u y) (hr1 : rngV v) (hr2 : rngV u) {p : Option Addr} {c : Nat} {bs0 : List UInt8} (hrb : RdB w (.slice p bs0.length c) bs0) :
    Calls Tryd.prog 4 #[.agg x, .agg y, .slice p bs0.length c] w fun e w' => e = .returned (.bool true) ∧ Below w.heap.size w w' := by
  have z1 := rd_len hrb
  have hxs := ef_val.size hx
  have hys := ef_val.size hy
  have hb1 := below_new (w := w) (.cells x 41)
  have hb2 := below_new (w := w.alloc (.cells x 41)) (.cells y 41)
  have hbc : Below w.heap.size w ((w.alloc (.cells x 41)).alloc (.cells y 41)) := below_trans hb1 hb2
  have hx8 : Lies w.heap.size 41 x ((w.alloc (.cells x 41)).alloc (.cells y 41)) := belowBlk hb2 (by simp) (heap_alloc_new w (.cells x 41))
  have hx9 : Lies (w.alloc (.cells x 41)).heap.size 41 y ((w.alloc (.cells x 41)).alloc (.cells y 41)) := heap_alloc_new (w.alloc (.cells x 41)) (.cells y 41)
  simp only [World.size_alloc] at hx9
  have HBX1 := Lib.hid hx8
  have HBX2 := Lib.hid hx9
  have HCUR := Lib.hid hbc
  have HE := Lib.hid hE
  have HZ1 := Lib.hid (fun W (g : Below w.heap.size w W) => (show Calls Tryd.prog 12 #[.agg x, .int .i64 3000] W fun e w' => (∃ r : Nat, e = .returned (.int .i64 (r : Int)) ∧ SizeLo 3000 (totV v) r) ∧ Below W.heap.size W w' from vsz_any v 3000 (by omega) W x (hx.below g)))
  have HZ2 := Lib.hid (fun W (g : Below w.heap.size w W) => (show Calls Tryd.prog 12 #[.agg y, .int .i64 3000] W fun e w' => (∃ r : Nat, e = .returned (.int .i64 (r : Int)) ∧ SizeLo 3000 (totV u) r) ∧ Below W.heap.size W w' from vsz_any u 3000 (by omega) W y (hy.below g)))
  have HRB := Lib.hid (hrb.below hbc)
  by_cases ht1 : totV v ≤ 3000
  rotate_left
  · clear hx hy hrb hb1 hb2 hbc hx8 hx9 hE hr1 hr2
    go_enter Tryd.func4, Tryd.ntmps4
    go_wp2_with (first
        | ((with_reducible apply op_load); exact HBX1.out.get hxs; exact rfl)
        | (go_at_call 12; refine (HZ1.out _ HCUR.out).mono ?_; rintro e W1 ⟨⟨r, rfl, hr⟩, hb1⟩; have z5 : (3000 : Int) < (r : Int) := (by have := hr.2.1 (by omega); omega); replace HCUR := Lib.hid (below_trans HCUR.out hb1); replace HBX2 := Lib.hid (HBX2.out.below hb1); clear HZ1 hr hb1)
        | ((with_reducible apply op_loadH); exact HBX2.out.get hys; exact rfl; exact rfl)
        | (go_at_call 12; refine (HZ2.out _ HCUR.out).mono ?_; rintro e W2 ⟨⟨r2, rfl, hr2⟩, hb2⟩; have z6 : ¬ (3000 : Int) < (r2 : Int) := (by have := hr2.1 (by omega); omega); have z6b : decide ((3000 : Int) < (r2 : Int)) = false := decide_eq_false z6; replace HCUR := Lib.hid (below_trans HCUR.out hb2); clear HZ2 hr2 hb2)
        | (go_at_call 5; refine (worksG_any (HE.out.b HCUR.out)).mono ?_; rintro e W3 ⟨rfl, hb3⟩; replace HCUR := Lib.hid (below_trans HCUR.out hb3); clear hb3))
    go_ret
    exact ⟨rfl, HCUR.out⟩
  by_cases ht2 : totV u ≤ 3000
  rotate_left
  · clear hx hy hrb hb1 hb2 hbc hx8 hx9 hE hr1 hr2
    go_enter Tryd.func4, Tryd.ntmps4
    go_wp2_with (first
        | ((with_reducible apply op_load); exact HBX1.out.get hxs; exact rfl)
        | (go_at_call 12; refine (HZ1.out _ HCUR.out).mono ?_; rintro e W1 ⟨⟨r, rfl, hr⟩, hb1⟩; have z5 : ¬ (3000 : Int) < (r : Int) := (by have := hr.1 (by omega); omega); have z5b : decide ((3000 : Int) < (r : Int)) = false := decide_eq_false z5; replace HCUR := Lib.hid (below_trans HCUR.out hb1); replace HBX2 := Lib.hid (HBX2.out.below hb1); clear HZ1 hr hb1)
        | ((with_reducible apply op_loadH); exact HBX2.out.get hys; exact rfl; exact rfl)
        | (go_at_call 12; refine (HZ2.out _ HCUR.out).mono ?_; rintro e W2 ⟨⟨r2, rfl, hr2⟩, hb2⟩; have z6 : (3000 : Int) < (r2 : Int) := (by have := hr2.2.1 (by omega); omega); replace HCUR := Lib.hid (below_trans HCUR.out hb2); clear HZ2 hr2 hb2)
        | (go_at_call 5; refine (worksG_any (HE.out.b HCUR.out)).mono ?_; rintro e W3 ⟨rfl, hb3⟩; replace HCUR := Lib.hid (below_trans HCUR.out hb3); clear hb3))
    go_ret
    exact ⟨rfl, HCUR.out⟩
  by_cases hbl : bs0.length ≤ 3000
  rotate_left
  · have hbi : (3000 : Int) < (bs0.length : Int) := by omega
    clear hx hy hrb hb1 hb2 hbc hx8 hx9 hE hr1 hr2
    go_enter Tryd.func4, Tryd.ntmps4
    go_wp2_with (first
        | ((with_reducible apply op_load); exact HBX1.out.get hxs; exact rfl)
        | (go_at_call 12; refine (HZ1.out _ HCUR.out).mono ?_; rintro e W1 ⟨⟨r, rfl, hr⟩, hb1⟩; have z5 : ¬ (3000 : Int) < (r : Int) := (by have := hr.1 (by omega); omega); have z5b : decide ((3000 : Int) < (r : Int)) = false := decide_eq_false z5; replace HCUR := Lib.hid (below_trans HCUR.out hb1); replace HBX2 := Lib.hid (HBX2.out.below hb1); clear HZ1 hr hb1)
        | ((with_reducible apply op_loadH); exact HBX2.out.get hys; exact rfl; exact rfl)
        | (go_at_call 12; refine (HZ2.out _ HCUR.out).mono ?_; rintro e W2 ⟨⟨r2, rfl, hr2⟩, hb2⟩; have z6 : ¬ (3000 : Int) < (r2 : Int) := (by have := hr2.1 (by omega); omega); have z6b : decide ((3000 : Int) < (r2 : Int)) = false := decide_eq_false z6; replace HCUR := Lib.hid (below_trans HCUR.out hb2); clear HZ2 hr2 hb2)
        | (go_at_call 5; refine (worksG_any (HE.out.b HCUR.out)).mono ?_; rintro e W3 ⟨rfl, hb3⟩; replace HCUR := Lib.hid (below_trans HCUR.out hb3); clear hb3))
    go_ret
    exact ⟨rfl, HCUR.out⟩
  have hbi : ¬ (3000 : Int) < (bs0.length : Int) := by omega
  have HC1 := Lib.hid (fun W (g : Below w.heap.size w W) => codecValue_any (hE.b g) (hx.below g) hr1 (by omega))
  have HC2 := Lib.hid (fun W (g : Below w.heap.size w W) => codecValue_any (hE.b g) (hy.below g) hr2 (by omega))
  have HC3 := Lib.hid (fun W (g : Below w.heap.size w W) (z : Array Value) (hz : VRd W v z) => codecValue_any (hE.b g) hz hr1 (by omega))
  have HA1 := Lib.hid (fun W (g : Below w.heap.size w W) (z : Array Value) (hz : VRd W v z) => alikeL_any v v W z x hz (hx.below g))
  have HA2 := Lib.hid (fun W (g : Below w.heap.size w W) => alikeL_any v u W x y (hx.below g) (hy.below g))
  have hvv : alikeV v v = true := (alikeV_iff v v).2 rfl
  rw [hvv] at HA1
  have hl1 := outV_len hr1 ht1
  have hl2 := outV_len hr2 ht2
  have HR1 := Lib.hid (fun W (g : Below w.heap.size w W) (p : Option Addr) (c : Nat) (hd : RdB W (.slice p (outV v).length c) (outV v)) => readPub_V (hE.b g) hd hl1)
  have HR2 := Lib.hid (fun W (g : Below w.heap.size w W) (p : Option Addr) (c : Nat) (hd : RdB W (.slice p bs0.length c) bs0) => readPub_V (hE.b g) hd (by omega))
  have HGN : Hid True := Lib.hid trivial
  have hrd1 : okV v = true → readW (rdVal 64) okV (outV v) = some v := fun h => by unfold outV; rw [if_pos h]; exact readW_of (rt_val 64) (wf_of_okV h hr1 (by omega)) h
  have hboth : okV v = true → okV u = true → decide (outV v = outV u) = alikeV v u ∧ beginsB (outV v) (outV u) = false ∧ beginsB (outV u) (outV v) = false := fun h1 h2 => by
    have w1 := wf_of_okV h1 hr1 (by omega)
    have w2 := wf_of_okV h2 hr2 (by omega)
    unfold outV
    rw [if_pos h1, if_pos h2]
    refine ⟨?_, beginsB_not (rt_val 64) w1 w2, beginsB_not (rt_val 64) w2 w1⟩
    rw [Bool.eq_iff_iff, decide_eq_true_eq, bytes_same (rt_val 64) w1 w2, alikeV_iff]
  generalize outV v = bs1 at *
  generalize outV u = bs2 at *
  generalize alikeV v u = al at *
  have HX0 : Hid (VRd w v x) := Lib.hid hx
  clear hx hy hrb hb1 hb2 hbc hx8 hx9 hvv
  cases hb0 : readW (rdVal 64) okV bs0 with
  | none =>
    rw [hb0] at HR2
    have HC4 : Hid True := Lib.hid trivial
    clear hb0 hE
    cases ok1 : okV v
    · rw [ok1] at HC1
      clear HR1 HC3 HA1 hrd1 hboth ok1
      cases ok2 : okV u
      all_goals
        rw [ok2] at HC2
        clear ok2
      all_goals
        go_enter Tryd.func4, Tryd.ntmps4
        go_wp2_with (first
            | ((with_reducible apply op_load); exact HBX1.out.get hxs; exact rfl)
            | (go_at_call 12
               (
                refine (HZ1.out _ HCUR.out).mono ?_
                rintro e W1 ⟨⟨r, rfl, hr⟩, hb1⟩
                have z5 : ¬ (3000 : Int) < (r : Int) := by have := hr.1 (by omega); omega
                have z5b : decide ((3000 : Int) < (r : Int)) = false := decide_eq_false z5
                replace HCUR := Lib.hid (below_trans HCUR.out hb1)
                try replace HBX1 := Lib.hid (HBX1.out.below hb1)
                try replace HBX2 := Lib.hid (HBX2.out.below hb1)
                try replace HRB := Lib.hid (HRB.out.below hb1)
                clear HZ1 hr hb1))
            | ((with_reducible apply op_loadH); exact HBX2.out.get hys; exact rfl; exact rfl)
            | (go_at_call 12
               (
                refine (HZ2.out _ HCUR.out).mono ?_
                rintro e W2 ⟨⟨r2, rfl, hr2⟩, hb2⟩
                have z6 : ¬ (3000 : Int) < (r2 : Int) := by have := hr2.1 (by omega); omega
                have z6b : decide ((3000 : Int) < (r2 : Int)) = false := decide_eq_false z6
                replace HCUR := Lib.hid (below_trans HCUR.out hb2)
                try replace HBX1 := Lib.hid (HBX1.out.below hb2)
                try replace HBX2 := Lib.hid (HBX2.out.below hb2)
                try replace HRB := Lib.hid (HRB.out.below hb2)
                clear HZ2 hr2 hb2))
            | (go_at_call 13
               (
                refine (HC1.out _ HCUR.out).mono ?_
                rintro e W3 ho
                obtain ⟨p1, c1, rfl, hd1, hb3⟩ := ho.rd
                replace HCUR := Lib.hid (below_trans HCUR.out hb3)
                try replace HBX1 := Lib.hid (HBX1.out.below hb3)
                try replace HBX2 := Lib.hid (HBX2.out.below hb3)
                try replace HRB := Lib.hid (HRB.out.below hb3)
                have HD1 := Lib.hid hd1
                clear HC1 ho hd1 hb3))
            | ((with_reducible apply op_load); exact HBX2.out.get hys; exact rfl)
            | (go_at_call 13
               (
                refine (HC2.out _ HCUR.out).mono ?_
                rintro e W4 ho
                obtain ⟨p2, c2, rfl, hd2, hb4⟩ := ho.rd
                replace HCUR := Lib.hid (below_trans HCUR.out hb4)
                try replace HD1 := Lib.hid (HD1.out.below hb4)
                try replace HBX1 := Lib.hid (HBX1.out.below hb4)
                try replace HBX2 := Lib.hid (HBX2.out.below hb4)
                try replace HRB := Lib.hid (HRB.out.below hb4)
                have HD2 := Lib.hid hd2
                clear HC2 ho hd2 hb4))
            | (go_at_call 11; refine (num_err _ _).mono ?_; rintro e w' ⟨rfl, rfl⟩)
            | (go_at_call 14
               (
                refine (HR1.out _ HCUR.out _ _ HD1.out).mono ?_
                rintro e W5 ⟨cs, rfl, hcs, hb5⟩
                replace hcs : VOwn W5 _ v cs := hcs
                have HS := Lib.hid (st_val.fresh (P := Tryd.prog) (W := W5) hcs.size6 hcs.ones)
                have hcz := hcs.size6
                replace HCUR := Lib.hid (below_trans HCUR.out hb5)
                try replace HD1 := Lib.hid (HD1.out.below hb5)
                try replace HD2 := Lib.hid (HD2.out.below hb5)
                try replace HBX1 := Lib.hid (HBX1.out.below hb5)
                try replace HBX2 := Lib.hid (HBX2.out.below hb5)
                try replace HRB := Lib.hid (HRB.out.below hb5)
                have HX1 := Lib.hid (hcs.rd (by omega))
                clear HR1 hcs hb5))
            | ((with_reducible apply op_store); exact HS.out _ rfl; exact rfl; exact rfl
               (
                have hbn := below_new (w := W5) (.cells cs 41)
                have HBX3 := Lib.hid (show Lies W5.heap.size 41 cs (W5.alloc (.cells cs 41)) from heap_alloc_new W5 _)
                replace HCUR := Lib.hid (below_trans HCUR.out hbn)
                try replace HD1 := Lib.hid (HD1.out.below hbn)
                try replace HD2 := Lib.hid (HD2.out.below hbn)
                try replace HX1 := Lib.hid (HX1.out.below hbn)
                try replace HXB := Lib.hid (HXB.out.below hbn)
                try replace HXC := Lib.hid (HXC.out.below hbn)
                try replace HBX1 := Lib.hid (HBX1.out.below hbn)
                try replace HBX2 := Lib.hid (HBX2.out.below hbn)
                try replace HRB := Lib.hid (HRB.out.below hbn)
                clear hbn HS
                generalize W5.alloc (.cells cs 41) = W5n at *
                generalize W5.heap.size = B5 at *))
            | ((with_reducible apply op_load); exact HBX3.out.get hcz; exact rfl)
            | (go_at_call 13
               (
                refine (HC3.out _ HCUR.out _ HX1.out).mono ?_
                rintro e W6 ho
                obtain ⟨p6, c6, rfl, hd6, hb6⟩ := ho.rd
                replace HCUR := Lib.hid (below_trans HCUR.out hb6)
                try replace HD1 := Lib.hid (HD1.out.below hb6)
                try replace HD2 := Lib.hid (HD2.out.below hb6)
                try replace HX1 := Lib.hid (HX1.out.below hb6)
                try replace HBX1 := Lib.hid (HBX1.out.below hb6)
                try replace HBX2 := Lib.hid (HBX2.out.below hb6)
                try replace HBX3 := Lib.hid (HBX3.out.below hb6)
                try replace HRB := Lib.hid (HRB.out.below hb6)
                have HD6 := Lib.hid hd6
                clear HC3 ho hd6 hb6))
            | (go_at_call 9
               (
                refine (bytes_any HD6.out HD1.out).mono ?_
                rintro e w' ⟨rfl, rfl⟩
                have heq1 : decide (bs1 = bs1) = true := decide_eq_true rfl
                clear HD6))
            | ((with_reducible apply op_loadH); exact HBX3.out.get hcz; exact rfl; exact rfl)
            | ((with_reducible apply op_loadH); exact HBX1.out.get hxs; exact rfl; exact rfl)
            | (go_at_call 15
               (
                refine (HA1.out _ HCUR.out _ HX1.out).mono ?_
                rintro e W7 ⟨rfl, hb7⟩
                replace HCUR := Lib.hid (below_trans HCUR.out hb7)
                try replace HD1 := Lib.hid (HD1.out.below hb7)
                try replace HD2 := Lib.hid (HD2.out.below hb7)
                try replace HBX1 := Lib.hid (HBX1.out.below hb7)
                try replace HBX2 := Lib.hid (HBX2.out.below hb7)
                try replace HRB := Lib.hid (HRB.out.below hb7)
                clear HA1 hb7 HX1 HBX3)))
        refine plain_region_draws (fun W => Below W4.heap.size W4 W) (by kernel_rfl) (show Below W4.heap.size W4 W4.drew from (Below.refl _ _).drew) (fun hS => ?_)
        refine take 0 76 (v := .int .i64 2) rfl rfl (by kernel_rfl) (by kernel_rfl) (by kernel_rfl) rfl (fun W hW => exec_move rfl rfl) (by assumption) ?_
        simp only [Act.put, List.setIfInBounds_toArray, List.set_cons_zero, List.set_cons_succ]
        refine onlyCall 1 77 rfl rfl (by kernel_rfl) rfl (exec_call [.int .i64 2] rfl rfl Tryd.func11 (by kernel_rfl) (by kernel_rfl)) ?_
        refine (num_err _ _).mono ?_
        rintro e w' ⟨rfl, rfl⟩
        refine ⟨_, rfl, .inr hS, ?_⟩
        simp only [Act.put, List.setIfInBounds_toArray, List.set_cons_zero, List.set_cons_succ]
        refine take 2 78 (v := .bool false) rfl rfl (by kernel_rfl) (by kernel_rfl) (by kernel_rfl) rfl (fun W hW => exec_bini rfl rfl rfl (he2 W)) (by assumption) ?_
        simp only [Act.put, List.setIfInBounds_toArray, List.set_cons_zero, List.set_cons_succ]
        refine take 3 79 (v := .bool false) rfl rfl (by kernel_rfl) (by kernel_rfl) (by kernel_rfl) rfl (fun W hW => exec_move rfl rfl) (by assumption) ?_
        simp only [Act.put, List.setIfInBounds_toArray, List.set_cons_zero, List.set_cons_succ]
        refine takeNot 4 80 rfl rfl (by kernel_rfl) (by kernel_rfl) (by kernel_rfl) rfl (by assumption) ?_
        simp only [Act.put, List.setIfInBounds_toArray, List.set_cons_zero, List.set_cons_succ]
        refine onlyNot 5 81 rfl rfl (by kernel_rfl) rfl ?_ (.inr (by assumption))
        simp only [Act.put, List.setIfInBounds_toArray, List.set_cons_zero, List.set_cons_succ]
        refine takeNot 6 82 rfl rfl (by kernel_rfl) (by kernel_rfl) (by kernel_rfl) rfl (by assumption) ?_
        simp only [Act.put, List.setIfInBounds_toArray, List.set_cons_zero, List.set_cons_succ]
        refine take 7 83 (v := .bool false) rfl rfl (by kernel_rfl) (by kernel_rfl) (by kernel_rfl) rfl (fun W hW => rfl) (by assumption) ?_
        simp only [Act.put, List.setIfInBounds_toArray, List.set_cons_zero, List.set_cons_succ]
        refine take 8 84 (v := .bool false) rfl rfl (by kernel_rfl) (by kernel_rfl) (by kernel_rfl) rfl (fun W hW => exec_move rfl rfl) (by assumption) ?_
        simp only [Act.put, List.setIfInBounds_toArray, List.set_cons_zero, List.set_cons_succ]
        refine takeNot 9 85 rfl rfl (by kernel_rfl) (by kernel_rfl) (by kernel_rfl) rfl (by assumption) ?_
        simp only [Act.put, List.setIfInBounds_toArray, List.set_cons_zero, List.set_cons_succ]
        refine takeNot 10 86 rfl rfl (by kernel_rfl) (by kernel_rfl) (by kernel_rfl) rfl (by assumption) ?_
        simp only [Act.put, List.setIfInBounds_toArray, List.set_cons_zero, List.set_cons_succ]
        refine takeNot 12 88 rfl rfl (by kernel_rfl) (by kernel_rfl) (by kernel_rfl) rfl (by assumption) ?_
        simp only [Act.put, List.setIfInBounds_toArray, List.set_cons_zero, List.set_cons_succ]
        refine takeNot 13 89 rfl rfl (by kernel_rfl) (by kernel_rfl) (by kernel_rfl) rfl (by assumption) ?_
        simp only [Act.put, List.setIfInBounds_toArray, List.set_cons_zero, List.set_cons_succ]
        refine onlyNot 11 87 rfl rfl (by kernel_rfl) rfl ?_ (.inr (by assumption))
        simp only [Act.put, List.setIfInBounds_toArray, List.set_cons_zero, List.set_cons_succ]
        refine onlyNot 14 90 rfl rfl (by kernel_rfl) rfl ?_ (.inr (by assumption))
        simp only [Act.put, List.setIfInBounds_toArray, List.set_cons_zero, List.set_cons_succ]
        refine takeNot 15 91 rfl rfl (by kernel_rfl) (by kernel_rfl) (by kernel_rfl) rfl (by assumption) ?_
        simp only [Act.put, List.setIfInBounds_toArray, List.set_cons_zero, List.set_cons_succ]
        refine takeNot 16 92 rfl rfl (by kernel_rfl) (by kernel_rfl) (by kernel_rfl) rfl (by assumption) ?_
        simp only [Act.put, List.setIfInBounds_toArray, List.set_cons_zero, List.set_cons_succ]
        refine takeNot 17 93 rfl rfl (by kernel_rfl) (by kernel_rfl) (by kernel_rfl) rfl (by assumption) ?_
        simp only [Act.put, List.setIfInBounds_toArray, List.set_cons_zero, List.set_cons_succ]
        refine takeNot 18 94 rfl rfl (by kernel_rfl) (by kernel_rfl) (by kernel_rfl) rfl (by assumption) ?_
        simp only [Act.put, List.setIfInBounds_toArray, List.set_cons_zero, List.set_cons_succ]
        refine onlyNot 19 95 rfl rfl (by kernel_rfl) rfl ?_ (.inr (by assumption))
        simp only [Act.put, List.setIfInBounds_toArray, List.set_cons_zero, List.set_cons_succ]
        refine takeNot 20 96 rfl rfl (by kernel_rfl) (by kernel_rfl) (by kernel_rfl) rfl (by assumption) ?_
        simp only [Act.put, List.setIfInBounds_toArray, List.set_cons_zero, List.set_cons_succ]
        refine takeNot 21 97 rfl rfl (by kernel_rfl) (by kernel_rfl) (by kernel_rfl) rfl (by assumption) ?_
        simp only [Act.put, List.setIfInBounds_toArray, List.set_cons_zero, List.set_cons_succ]
        refine takeNot 22 98 rfl rfl (by kernel_rfl) (by kernel_rfl) (by kernel_rfl) rfl (by assumption) ?_
        simp only [Act.put, List.setIfInBounds_toArray, List.set_cons_zero, List.set_cons_succ]
        refine takeNot 23 99 rfl rfl (by kernel_rfl) (by kernel_rfl) (by kernel_rfl) rfl (by assumption) ?_
        simp only [Act.put, List.setIfInBounds_toArray, List.set_cons_zero, List.set_cons_succ]
        refine onlyNot 24 100 rfl rfl (by kernel_rfl) rfl ?_ (.inr (by assumption))
        simp only [Act.put, List.setIfInBounds_toArray, List.set_cons_zero, List.set_cons_succ]
        refine takeNot 25 101 rfl rfl (by kernel_rfl) (by kernel_rfl) (by kernel_rfl) rfl (by assumption) ?_
        simp only [Act.put, List.setIfInBounds_toArray, List.set_cons_zero, List.set_cons_succ]
        refine take 26 102 (v := .bool false) rfl rfl (by kernel_rfl) (by kernel_rfl) (by kernel_rfl) rfl (fun W hW => rfl) (by assumption) ?_
        simp only [Act.put, List.setIfInBounds_toArray, List.set_cons_zero, List.set_cons_succ]
        refine done (by kernel_rfl) ?_ _
        replace HCUR := Lib.hid (below_trans HCUR.out hS)
        replace HRB := Lib.hid (HRB.out.below hS)
        clear hS HD1 HD2 HBX1 HBX2
        go_wp2_with (first
            | (go_at_call 11; refine (num_err _ _).mono ?_; rintro e w' ⟨rfl, rfl⟩)
            | (go_at_call 14
               (
                refine (HR2.out _ HCUR.out _ _ HRB.out).mono ?_
                rintro e W11 ⟨cs2, rfl, hcs2, hb11⟩
                replace hcs2 : VOwn W11 _ val0 cs2 := hcs2
                have HS2 := Lib.hid (st_val.fresh (P := Tryd.prog) (W := W11) hcs2.size6 hcs2.ones)
                have hcz2 := hcs2.size6
                replace HCUR := Lib.hid (below_trans HCUR.out hb11)
                try replace HRB := Lib.hid (HRB.out.below hb11)
                have HX2 := Lib.hid (hcs2.rd (by simp [val0, totV, totVs]))
                clear HR2 hcs2 hb11))
            | ((with_reducible apply op_store); exact HS2.out _ rfl; exact rfl; exact rfl
               (
                have hbn := below_new (w := W11) (.cells cs2 41)
                have HBX3 := Lib.hid (show Lies W11.heap.size 41 cs2 (W11.alloc (.cells cs2 41)) from heap_alloc_new W11 _)
                replace HCUR := Lib.hid (below_trans HCUR.out hbn)
                replace HX2 := Lib.hid (HX2.out.below hbn)
                try replace HD1 := Lib.hid (HD1.out.below hbn)
                try replace HD2 := Lib.hid (HD2.out.below hbn)
                try replace HX1 := Lib.hid (HX1.out.below hbn)
                try replace HXB := Lib.hid (HXB.out.below hbn)
                try replace HXC := Lib.hid (HXC.out.below hbn)
                try replace HBX1 := Lib.hid (HBX1.out.below hbn)
                try replace HBX2 := Lib.hid (HBX2.out.below hbn)
                try replace HRB := Lib.hid (HRB.out.below hbn)
                clear hbn HS2
                generalize W11.alloc (.cells cs2 41) = W11n at *
                generalize W11.heap.size = B11 at *))
            | ((with_reducible apply op_load); exact HBX3.out.get hcz2; exact rfl)
            | (go_at_call 13
               (
                refine (HC4.out _ HCUR.out _ HX2.out).mono ?_
                rintro e W12 ho
                obtain ⟨p12, c12, rfl, hd12, hb12⟩ := ho.rd
                replace HCUR := Lib.hid (below_trans HCUR.out hb12)
                try replace HRB := Lib.hid (HRB.out.below hb12)
                have HD12 := Lib.hid hd12
                clear HC4 ho hd12 hb12))
            | (go_at_call 9
               (
                refine (bytes_any HD12.out HRB.out).mono ?_
                rintro e w' ⟨rfl, rfl⟩
                have heq2 : decide (bs0 = bs0) = true := decide_eq_true rfl))
            | (go_at_call 5
               (
                refine (worksG_any (HE.out.b HCUR.out)).mono ?_
                rintro e W13 ⟨rfl, hb13⟩
                replace HCUR := Lib.hid (below_trans HCUR.out hb13)
                clear hb13)))
        go_ret
        exact ⟨rfl, HCUR.out⟩
    · have hrd := hrd1 ok1
      rw [hrd] at HR1
      rw [ok1] at HC1 HC3
      cases ok2 : okV u
      · rw [ok2] at HC2
        clear hrd hrd1 hboth ok1 ok2
        go_enter Tryd.func4, Tryd.ntmps4
        go_wp2_with (first
            | ((with_reducible apply op_load); exact HBX1.out.get hxs; exact rfl)
            | (go_at_call 12
               (
                refine (HZ1.out _ HCUR.out).mono ?_
                rintro e W1 ⟨⟨r, rfl, hr⟩, hb1⟩
                have z5 : ¬ (3000 : Int) < (r : Int) := by have := hr.1 (by omega); omega
                have z5b : decide ((3000 : Int) < (r : Int)) = false := decide_eq_false z5
                replace HCUR := Lib.hid (below_trans HCUR.out hb1)
                try replace HBX1 := Lib.hid (HBX1.out.below hb1)
                try replace HBX2 := Lib.hid (HBX2.out.below hb1)
                try replace HRB := Lib.hid (HRB.out.below hb1)
                clear HZ1 hr hb1))
            | ((with_reducible apply op_loadH); exact HBX2.out.get hys; exact rfl; exact rfl)
            | (go_at_call 12
               (
                refine (HZ2.out _ HCUR.out).mono ?_
                rintro e W2 ⟨⟨r2, rfl, hr2⟩, hb2⟩
                have z6 : ¬ (3000 : Int) < (r2 : Int) := by have := hr2.1 (by omega); omega
                have z6b : decide ((3000 : Int) < (r2 : Int)) = false := decide_eq_false z6
                replace HCUR := Lib.hid (below_trans HCUR.out hb2)
                try replace HBX1 := Lib.hid (HBX1.out.below hb2)
                try replace HBX2 := Lib.hid (HBX2.out.below hb2)
                try replace HRB := Lib.hid (HRB.out.below hb2)
                clear HZ2 hr2 hb2))
            | (go_at_call 13
               (
                refine (HC1.out _ HCUR.out).mono ?_
                rintro e W3 ho
                obtain ⟨p1, c1, rfl, hd1, hb3⟩ := ho.rd
                replace HCUR := Lib.hid (below_trans HCUR.out hb3)
                try replace HBX1 := Lib.hid (HBX1.out.below hb3)
                try replace HBX2 := Lib.hid (HBX2.out.below hb3)
                try replace HRB := Lib.hid (HRB.out.below hb3)
                have HD1 := Lib.hid hd1
                clear HC1 ho hd1 hb3))
            | ((with_reducible apply op_load); exact HBX2.out.get hys; exact rfl)
            | (go_at_call 13
               (
                refine (HC2.out _ HCUR.out).mono ?_
                rintro e W4 ho
                obtain ⟨p2, c2, rfl, hd2, hb4⟩ := ho.rd
                replace HCUR := Lib.hid (below_trans HCUR.out hb4)
                try replace HD1 := Lib.hid (HD1.out.below hb4)
                try replace HBX1 := Lib.hid (HBX1.out.below hb4)
                try replace HBX2 := Lib.hid (HBX2.out.below hb4)
                try replace HRB := Lib.hid (HRB.out.below hb4)
                have HD2 := Lib.hid hd2
                clear HC2 ho hd2 hb4))
            | (go_at_call 11; refine (num_err _ _).mono ?_; rintro e w' ⟨rfl, rfl⟩)
            | (go_at_call 14
               (
                refine (HR1.out _ HCUR.out _ _ HD1.out).mono ?_
                rintro e W5 ⟨cs, rfl, hcs, hb5⟩
                replace hcs : VOwn W5 _ v cs := hcs
                have HS := Lib.hid (st_val.fresh (P := Tryd.prog) (W := W5) hcs.size6 hcs.ones)
                have hcz := hcs.size6
                replace HCUR := Lib.hid (below_trans HCUR.out hb5)
                try replace HD1 := Lib.hid (HD1.out.below hb5)
                try replace HD2 := Lib.hid (HD2.out.below hb5)
                try replace HBX1 := Lib.hid (HBX1.out.below hb5)
                try replace HBX2 := Lib.hid (HBX2.out.below hb5)
                try replace HRB := Lib.hid (HRB.out.below hb5)
                have HX1 := Lib.hid (hcs.rd (by omega))
                clear HR1 hcs hb5))
            | ((with_reducible apply op_store); exact HS.out _ rfl; exact rfl; exact rfl
               (
                have hbn := below_new (w := W5) (.cells cs 41)
                have HBX3 := Lib.hid (show Lies W5.heap.size 41 cs (W5.alloc (.cells cs 41)) from heap_alloc_new W5 _)
                replace HCUR := Lib.hid (below_trans HCUR.out hbn)
                try replace HD1 := Lib.hid (HD1.out.below hbn)
                try replace HD2 := Lib.hid (HD2.out.below hbn)
                try replace HX1 := Lib.hid (HX1.out.below hbn)
                try replace HXB := Lib.hid (HXB.out.below hbn)
                try replace HXC := Lib.hid (HXC.out.below hbn)
                try replace HBX1 := Lib.hid (HBX1.out.below hbn)
                try replace HBX2 := Lib.hid (HBX2.out.below hbn)
                try replace HRB := Lib.hid (HRB.out.below hbn)
                clear hbn HS
                generalize W5.alloc (.cells cs 41) = W5n at *
                generalize W5.heap.size = B5 at *))
            | ((with_reducible apply op_load); exact HBX3.out.get hcz; exact rfl)
            | (go_at_call 13
               (
                refine (HC3.out _ HCUR.out _ HX1.out).mono ?_
                rintro e W6 ho
                obtain ⟨p6, c6, rfl, hd6, hb6⟩ := ho.rd
                replace HCUR := Lib.hid (below_trans HCUR.out hb6)
                try replace HD1 := Lib.hid (HD1.out.below hb6)
                try replace HD2 := Lib.hid (HD2.out.below hb6)
                try replace HX1 := Lib.hid (HX1.out.below hb6)
                try replace HBX1 := Lib.hid (HBX1.out.below hb6)
                try replace HBX2 := Lib.hid (HBX2.out.below hb6)
                try replace HBX3 := Lib.hid (HBX3.out.below hb6)
                try replace HRB := Lib.hid (HRB.out.below hb6)
                have HD6 := Lib.hid hd6
                clear HC3 ho hd6 hb6))
            | (go_at_call 9
               (
                refine (bytes_any HD6.out HD1.out).mono ?_
                rintro e w' ⟨rfl, rfl⟩
                have heq1 : decide (bs1 = bs1) = true := decide_eq_true rfl
                clear HD6))
            | ((with_reducible apply op_loadH); exact HBX3.out.get hcz; exact rfl; exact rfl)
            | ((with_reducible apply op_loadH); exact HBX1.out.get hxs; exact rfl; exact rfl)
            | (go_at_call 15
               (
                refine (HA1.out _ HCUR.out _ HX1.out).mono ?_
                rintro e W7 ⟨rfl, hb7⟩
                replace HCUR := Lib.hid (below_trans HCUR.out hb7)
                try replace HD1 := Lib.hid (HD1.out.below hb7)
                try replace HD2 := Lib.hid (HD2.out.below hb7)
                try replace HBX1 := Lib.hid (HBX1.out.below hb7)
                try replace HBX2 := Lib.hid (HBX2.out.below hb7)
                try replace HRB := Lib.hid (HRB.out.below hb7)
                clear HA1 hb7 HX1 HBX3)))
        refine plain_region_draws (fun W => Below W7.heap.size W7 W) (by kernel_rfl) (show Below W7.heap.size W7 W7.drew from (Below.refl _ _).drew) (fun hS => ?_)
        refine take 0 76 (v := .int .i64 0) rfl rfl (by kernel_rfl) (by kernel_rfl) (by kernel_rfl) rfl (fun W hW => exec_move rfl rfl) (by assumption) ?_
        simp only [Act.put, List.setIfInBounds_toArray, List.set_cons_zero, List.set_cons_succ]
        refine onlyCall 1 77 rfl rfl (by kernel_rfl) rfl (exec_call [.int .i64 0] rfl rfl Tryd.func11 (by kernel_rfl) (by kernel_rfl)) ?_
        refine (num_err _ _).mono ?_
        rintro e w' ⟨rfl, rfl⟩
        refine ⟨_, rfl, .inr hS, ?_⟩
        simp only [Act.put, List.setIfInBounds_toArray, List.set_cons_zero, List.set_cons_succ]
        refine take 2 78 (v := .bool true) rfl rfl (by kernel_rfl) (by kernel_rfl) (by kernel_rfl) rfl (fun W hW => exec_bini rfl rfl rfl (he0 W)) (by assumption) ?_
        simp only [Act.put, List.setIfInBounds_toArray, List.set_cons_zero, List.set_cons_succ]
        refine take 3 79 (v := .bool true) rfl rfl (by kernel_rfl) (by kernel_rfl) (by kernel_rfl) rfl (fun W hW => exec_move rfl rfl) (by assumption) ?_
        simp only [Act.put, List.setIfInBounds_toArray, List.set_cons_zero, List.set_cons_succ]
        refine take 4 80 (v := .int .i64 2) rfl rfl (by kernel_rfl) (by kernel_rfl) (by kernel_rfl) rfl (fun W hW => exec_move rfl rfl) (by assumption) ?_
        simp only [Act.put, List.setIfInBounds_toArray, List.set_cons_zero, List.set_cons_succ]
        refine onlyCall 5 81 rfl rfl (by kernel_rfl) rfl (exec_call [.int .i64 2] rfl rfl Tryd.func11 (by kernel_rfl) (by kernel_rfl)) ?_
        refine (num_err _ _).mono ?_
        rintro e w' ⟨rfl, rfl⟩
        refine ⟨_, rfl, .inr hS, ?_⟩
        simp only [Act.put, List.setIfInBounds_toArray, List.set_cons_zero, List.set_cons_succ]
        refine take 6 82 (v := .bool false) rfl rfl (by kernel_rfl) (by kernel_rfl) (by kernel_rfl) rfl (fun W hW => exec_bini rfl rfl rfl (he2 W)) (by assumption) ?_
        simp only [Act.put, List.setIfInBounds_toArray, List.set_cons_zero, List.set_cons_succ]
        refine take 7 83 (v := .bool false) rfl rfl (by kernel_rfl) (by kernel_rfl) (by kernel_rfl) rfl (fun W hW => rfl) (by assumption) ?_
        simp only [Act.put, List.setIfInBounds_toArray, List.set_cons_zero, List.set_cons_succ]
        refine take 8 84 (v := .bool false) rfl rfl (by kernel_rfl) (by kernel_rfl) (by kernel_rfl) rfl (fun W hW => exec_move rfl rfl) (by assumption) ?_
        simp only [Act.put, List.setIfInBounds_toArray, List.set_cons_zero, List.set_cons_succ]
        refine takeNot 9 85 rfl rfl (by kernel_rfl) (by kernel_rfl) (by kernel_rfl) rfl (by assumption) ?_
        simp only [Act.put, List.setIfInBounds_toArray, List.set_cons_zero, List.set_cons_succ]
        refine takeNot 10 86 rfl rfl (by kernel_rfl) (by kernel_rfl) (by kernel_rfl) rfl (by assumption) ?_
        simp only [Act.put, List.setIfInBounds_toArray, List.set_cons_zero, List.set_cons_succ]
        refine takeNot 12 88 rfl rfl (by kernel_rfl) (by kernel_rfl) (by kernel_rfl) rfl (by assumption) ?_
        simp only [Act.put, List.setIfInBounds_toArray, List.set_cons_zero, List.set_cons_succ]
        refine takeNot 13 89 rfl rfl (by kernel_rfl) (by kernel_rfl) (by kernel_rfl) rfl (by assumption) ?_
        simp only [Act.put, List.setIfInBounds_toArray, List.set_cons_zero, List.set_cons_succ]
        refine onlyNot 11 87 rfl rfl (by kernel_rfl) rfl ?_ (.inr (by assumption))
        simp only [Act.put, List.setIfInBounds_toArray, List.set_cons_zero, List.set_cons_succ]
        refine onlyNot 14 90 rfl rfl (by kernel_rfl) rfl ?_ (.inr (by assumption))
        simp only [Act.put, List.setIfInBounds_toArray, List.set_cons_zero, List.set_cons_succ]
        refine takeNot 15 91 rfl rfl (by kernel_rfl) (by kernel_rfl) (by kernel_rfl) rfl (by assumption) ?_
        simp only [Act.put, List.setIfInBounds_toArray, List.set_cons_zero, List.set_cons_succ]
        refine takeNot 16 92 rfl rfl (by kernel_rfl) (by kernel_rfl) (by kernel_rfl) rfl (by assumption) ?_
        simp only [Act.put, List.setIfInBounds_toArray, List.set_cons_zero, List.set_cons_succ]
        refine takeNot 17 93 rfl rfl (by kernel_rfl) (by kernel_rfl) (by kernel_rfl) rfl (by assumption) ?_
        simp only [Act.put, List.setIfInBounds_toArray, List.set_cons_zero, List.set_cons_succ]
        refine takeNot 18 94 rfl rfl (by kernel_rfl) (by kernel_rfl) (by kernel_rfl) rfl (by assumption) ?_
        simp only [Act.put, List.setIfInBounds_toArray, List.set_cons_zero, List.set_cons_succ]
        refine onlyNot 19 95 rfl rfl (by kernel_rfl) rfl ?_ (.inr (by assumption))
        simp only [Act.put, List.setIfInBounds_toArray, List.set_cons_zero, List.set_cons_succ]
        refine takeNot 20 96 rfl rfl (by kernel_rfl) (by kernel_rfl) (by kernel_rfl) rfl (by assumption) ?_
        simp only [Act.put, List.setIfInBounds_toArray, List.set_cons_zero, List.set_cons_succ]
        refine takeNot 21 97 rfl rfl (by kernel_rfl) (by kernel_rfl) (by kernel_rfl) rfl (by assumption) ?_
        simp only [Act.put, List.setIfInBounds_toArray, List.set_cons_zero, List.set_cons_succ]
        refine takeNot 22 98 rfl rfl (by kernel_rfl) (by kernel_rfl) (by kernel_rfl) rfl (by assumption) ?_
        simp only [Act.put, List.setIfInBounds_toArray, List.set_cons_zero, List.set_cons_succ]
        refine takeNot 23 99 rfl rfl (by kernel_rfl) (by kernel_rfl) (by kernel_rfl) rfl (by assumption) ?_
        simp only [Act.put, List.setIfInBounds_toArray, List.set_cons_zero, List.set_cons_succ]
        refine onlyNot 24 100 rfl rfl (by kernel_rfl) rfl ?_ (.inr (by assumption))
        simp only [Act.put, List.setIfInBounds_toArray, List.set_cons_zero, List.set_cons_succ]
        refine takeNot 25 101 rfl rfl (by kernel_rfl) (by kernel_rfl) (by kernel_rfl) rfl (by assumption) ?_
        simp only [Act.put, List.setIfInBounds_toArray, List.set_cons_zero, List.set_cons_succ]
        refine take 26 102 (v := .bool false) rfl rfl (by kernel_rfl) (by kernel_rfl) (by kernel_rfl) rfl (fun W hW => rfl) (by assumption) ?_
        simp only [Act.put, List.setIfInBounds_toArray, List.set_cons_zero, List.set_cons_succ]
        refine done (by kernel_rfl) ?_ _
        replace HCUR := Lib.hid (below_trans HCUR.out hS)
        replace HRB := Lib.hid (HRB.out.below hS)
        clear hS HD1 HD2 HBX1 HBX2
        go_wp2_with (first
            | (go_at_call 11; refine (num_err _ _).mono ?_; rintro e w' ⟨rfl, rfl⟩)
            | (go_at_call 14
               (
                refine (HR2.out _ HCUR.out _ _ HRB.out).mono ?_
                rintro e W11 ⟨cs2, rfl, hcs2, hb11⟩
                replace hcs2 : VOwn W11 _ val0 cs2 := hcs2
                have HS2 := Lib.hid (st_val.fresh (P := Tryd.prog) (W := W11) hcs2.size6 hcs2.ones)
                have hcz2 := hcs2.size6
                replace HCUR := Lib.hid (below_trans HCUR.out hb11)
                try replace HRB := Lib.hid (HRB.out.below hb11)
                have HX2 := Lib.hid (hcs2.rd (by simp [val0, totV, totVs]))
                clear HR2 hcs2 hb11))
            | ((with_reducible apply op_store); exact HS2.out _ rfl; exact rfl; exact rfl
               (
                have hbn := below_new (w := W11) (.cells cs2 41)
                have HBX3 := Lib.hid (show Lies W11.heap.size 41 cs2 (W11.alloc (.cells cs2 41)) from heap_alloc_new W11 _)
                replace HCUR := Lib.hid (below_trans HCUR.out hbn)
                replace HX2 := Lib.hid (HX2.out.below hbn)
                try replace HD1 := Lib.hid (HD1.out.below hbn)
                try replace HD2 := Lib.hid (HD2.out.below hbn)
                try replace HX1 := Lib.hid (HX1.out.below hbn)
                try replace HXB := Lib.hid (HXB.out.below hbn)
                try replace HXC := Lib.hid (HXC.out.below hbn)
                try replace HBX1 := Lib.hid (HBX1.out.below hbn)
                try replace HBX2 := Lib.hid (HBX2.out.below hbn)
                try replace HRB := Lib.hid (HRB.out.below hbn)
                clear hbn HS2
                generalize W11.alloc (.cells cs2 41) = W11n at *
                generalize W11.heap.size = B11 at *))
            | ((with_reducible apply op_load); exact HBX3.out.get hcz2; exact rfl)
            | (go_at_call 13
               (
                refine (HC4.out _ HCUR.out _ HX2.out).mono ?_
                rintro e W12 ho
                obtain ⟨p12, c12, rfl, hd12, hb12⟩ := ho.rd
                replace HCUR := Lib.hid (below_trans HCUR.out hb12)
                try replace HRB := Lib.hid (HRB.out.below hb12)
                have HD12 := Lib.hid hd12
                clear HC4 ho hd12 hb12))
            | (go_at_call 9
               (
                refine (bytes_any HD12.out HRB.out).mono ?_
                rintro e w' ⟨rfl, rfl⟩
                have heq2 : decide (bs0 = bs0) = true := decide_eq_true rfl))
            | (go_at_call 5
               (
                refine (worksG_any (HE.out.b HCUR.out)).mono ?_
                rintro e W13 ⟨rfl, hb13⟩
                replace HCUR := Lib.hid (below_trans HCUR.out hb13)
                clear hb13)))
        go_ret
        exact ⟨rfl, HCUR.out⟩
      · obtain ⟨e1, e2, e3⟩ := hboth ok1 ok2
        rw [ok2] at HC2
        clear hrd hrd1 hboth ok1 ok2
        have HEQ := Lib.hid (And.intro e1 (And.intro e2 e3))
        clear e1 e2 e3
        go_enter Tryd.func4, Tryd.ntmps4
        go_wp2_with (first
            | ((with_reducible apply op_load); exact HBX1.out.get hxs; exact rfl)
            | (go_at_call 12
               (
                refine (HZ1.out _ HCUR.out).mono ?_
                rintro e W1 ⟨⟨r, rfl, hr⟩, hb1⟩
                have z5 : ¬ (3000 : Int) < (r : Int) := by have := hr.1 (by omega); omega
                have z5b : decide ((3000 : Int) < (r : Int)) = false := decide_eq_false z5
                replace HCUR := Lib.hid (below_trans HCUR.out hb1)
                try replace HBX1 := Lib.hid (HBX1.out.below hb1)
                try replace HBX2 := Lib.hid (HBX2.out.below hb1)
                try replace HRB := Lib.hid (HRB.out.below hb1)
                clear HZ1 hr hb1))
            | ((with_reducible apply op_loadH); exact HBX2.out.get hys; exact rfl; exact rfl)
            | (go_at_call 12
               (
                refine (HZ2.out _ HCUR.out).mono ?_
                rintro e W2 ⟨⟨r2, rfl, hr2⟩, hb2⟩
                have z6 : ¬ (3000 : Int) < (r2 : Int) := by have := hr2.1 (by omega); omega
                have z6b : decide ((3000 : Int) < (r2 : Int)) = false := decide_eq_false z6
                replace HCUR := Lib.hid (below_trans HCUR.out hb2)
                try replace HBX1 := Lib.hid (HBX1.out.below hb2)
                try replace HBX2 := Lib.hid (HBX2.out.below hb2)
                try replace HRB := Lib.hid (HRB.out.below hb2)
                clear HZ2 hr2 hb2))
            | (go_at_call 13
               (
                refine (HC1.out _ HCUR.out).mono ?_
                rintro e W3 ho
                obtain ⟨p1, c1, rfl, hd1, hb3⟩ := ho.rd
                replace HCUR := Lib.hid (below_trans HCUR.out hb3)
                try replace HBX1 := Lib.hid (HBX1.out.below hb3)
                try replace HBX2 := Lib.hid (HBX2.out.below hb3)
                try replace HRB := Lib.hid (HRB.out.below hb3)
                have HD1 := Lib.hid hd1
                clear HC1 ho hd1 hb3))
            | ((with_reducible apply op_load); exact HBX2.out.get hys; exact rfl)
            | (go_at_call 13
               (
                refine (HC2.out _ HCUR.out).mono ?_
                rintro e W4 ho
                obtain ⟨p2, c2, rfl, hd2, hb4⟩ := ho.rd
                replace HCUR := Lib.hid (below_trans HCUR.out hb4)
                try replace HD1 := Lib.hid (HD1.out.below hb4)
                try replace HBX1 := Lib.hid (HBX1.out.below hb4)
                try replace HBX2 := Lib.hid (HBX2.out.below hb4)
                try replace HRB := Lib.hid (HRB.out.below hb4)
                have HD2 := Lib.hid hd2
                clear HC2 ho hd2 hb4))
            | (go_at_call 11; refine (num_err _ _).mono ?_; rintro e w' ⟨rfl, rfl⟩)
            | (go_at_call 14
               (
                refine (HR1.out _ HCUR.out _ _ HD1.out).mono ?_
                rintro e W5 ⟨cs, rfl, hcs, hb5⟩
                replace hcs : VOwn W5 _ v cs := hcs
                have HS := Lib.hid (st_val.fresh (P := Tryd.prog) (W := W5) hcs.size6 hcs.ones)
                have hcz := hcs.size6
                replace HCUR := Lib.hid (below_trans HCUR.out hb5)
                try replace HD1 := Lib.hid (HD1.out.below hb5)
                try replace HD2 := Lib.hid (HD2.out.below hb5)
                try replace HBX1 := Lib.hid (HBX1.out.below hb5)
                try replace HBX2 := Lib.hid (HBX2.out.below hb5)
                try replace HRB := Lib.hid (HRB.out.below hb5)
                have HX1 := Lib.hid (hcs.rd (by omega))
                clear HR1 hcs hb5))
            | ((with_reducible apply op_store); exact HS.out _ rfl; exact rfl; exact rfl
               (
                have hbn := below_new (w := W5) (.cells cs 41)
                have HBX3 := Lib.hid (show Lies W5.heap.size 41 cs (W5.alloc (.cells cs 41)) from heap_alloc_new W5 _)
                replace HCUR := Lib.hid (below_trans HCUR.out hbn)
                try replace HD1 := Lib.hid (HD1.out.below hbn)
                try replace HD2 := Lib.hid (HD2.out.below hbn)
                try replace HX1 := Lib.hid (HX1.out.below hbn)
                try replace HXB := Lib.hid (HXB.out.below hbn)
                try replace HXC := Lib.hid (HXC.out.below hbn)
                try replace HBX1 := Lib.hid (HBX1.out.below hbn)
                try replace HBX2 := Lib.hid (HBX2.out.below hbn)
                try replace HRB := Lib.hid (HRB.out.below hbn)
                clear hbn HS
                generalize W5.alloc (.cells cs 41) = W5n at *
                generalize W5.heap.size = B5 at *))
            | ((with_reducible apply op_load); exact HBX3.out.get hcz; exact rfl)
            | (go_at_call 13
               (
                refine (HC3.out _ HCUR.out _ HX1.out).mono ?_
                rintro e W6 ho
                obtain ⟨p6, c6, rfl, hd6, hb6⟩ := ho.rd
                replace HCUR := Lib.hid (below_trans HCUR.out hb6)
                try replace HD1 := Lib.hid (HD1.out.below hb6)
                try replace HD2 := Lib.hid (HD2.out.below hb6)
                try replace HX1 := Lib.hid (HX1.out.below hb6)
                try replace HBX1 := Lib.hid (HBX1.out.below hb6)
                try replace HBX2 := Lib.hid (HBX2.out.below hb6)
                try replace HBX3 := Lib.hid (HBX3.out.below hb6)
                try replace HRB := Lib.hid (HRB.out.below hb6)
                have HD6 := Lib.hid hd6
                clear HC3 ho hd6 hb6))
            | (go_at_call 9
               (
                refine (bytes_any HD6.out HD1.out).mono ?_
                rintro e w' ⟨rfl, rfl⟩
                have heq1 : decide (bs1 = bs1) = true := decide_eq_true rfl
                clear HD6))
            | ((with_reducible apply op_loadH); exact HBX3.out.get hcz; exact rfl; exact rfl)
            | ((with_reducible apply op_loadH); exact HBX1.out.get hxs; exact rfl; exact rfl)
            | (go_at_call 15
               (
                refine (HA1.out _ HCUR.out _ HX1.out).mono ?_
                rintro e W7 ⟨rfl, hb7⟩
                replace HCUR := Lib.hid (below_trans HCUR.out hb7)
                try replace HD1 := Lib.hid (HD1.out.below hb7)
                try replace HD2 := Lib.hid (HD2.out.below hb7)
                try replace HBX1 := Lib.hid (HBX1.out.below hb7)
                try replace HBX2 := Lib.hid (HBX2.out.below hb7)
                try replace HRB := Lib.hid (HRB.out.below hb7)
                clear HA1 hb7 HX1 HBX3)))
        obtain ⟨e1, e2, e3⟩ := HEQ.out
        refine plain_region_draws (fun W => Below W7.heap.size W7 W) (by kernel_rfl) (show Below W7.heap.size W7 W7.drew from (Below.refl _ _).drew) (fun hS => ?_)
        refine take 0 76 (v := .int .i64 0) rfl rfl (by kernel_rfl) (by kernel_rfl) (by kernel_rfl) rfl (fun W hW => exec_move rfl rfl) (by assumption) ?_
        simp only [Act.put, List.setIfInBounds_toArray, List.set_cons_zero, List.set_cons_succ]
        refine onlyCall 1 77 rfl rfl (by kernel_rfl) rfl (exec_call [.int .i64 0] rfl rfl Tryd.func11 (by kernel_rfl) (by kernel_rfl)) ?_
        refine (num_err _ _).mono ?_
        rintro e w' ⟨rfl, rfl⟩
        refine ⟨_, rfl, .inr hS, ?_⟩
        simp only [Act.put, List.setIfInBounds_toArray, List.set_cons_zero, List.set_cons_succ]
        refine take 2 78 (v := .bool true) rfl rfl (by kernel_rfl) (by kernel_rfl) (by kernel_rfl) rfl (fun W hW => exec_bini rfl rfl rfl (he0 W)) (by assumption) ?_
        simp only [Act.put, List.setIfInBounds_toArray, List.set_cons_zero, List.set_cons_succ]
        refine take 3 79 (v := .bool true) rfl rfl (by kernel_rfl) (by kernel_rfl) (by kernel_rfl) rfl (fun W hW => exec_move rfl rfl) (by assumption) ?_
        simp only [Act.put, List.setIfInBounds_toArray, List.set_cons_zero, List.set_cons_succ]
        refine take 4 80 (v := .int .i64 0) rfl rfl (by kernel_rfl) (by kernel_rfl) (by kernel_rfl) rfl (fun W hW => exec_move rfl rfl) (by assumption) ?_
        simp only [Act.put, List.setIfInBounds_toArray, List.set_cons_zero, List.set_cons_succ]
        refine onlyCall 5 81 rfl rfl (by kernel_rfl) rfl (exec_call [.int .i64 0] rfl rfl Tryd.func11 (by kernel_rfl) (by kernel_rfl)) ?_
        refine (num_err _ _).mono ?_
        rintro e w' ⟨rfl, rfl⟩
        refine ⟨_, rfl, .inr hS, ?_⟩
        simp only [Act.put, List.setIfInBounds_toArray, List.set_cons_zero, List.set_cons_succ]
        refine take 6 82 (v := .bool true) rfl rfl (by kernel_rfl) (by kernel_rfl) (by kernel_rfl) rfl (fun W hW => exec_bini rfl rfl rfl (he0 W)) (by assumption) ?_
        simp only [Act.put, List.setIfInBounds_toArray, List.set_cons_zero, List.set_cons_succ]
        refine take 7 83 (v := .bool true) rfl rfl (by kernel_rfl) (by kernel_rfl) (by kernel_rfl) rfl (fun W hW => rfl) (by assumption) ?_
        simp only [Act.put, List.setIfInBounds_toArray, List.set_cons_zero, List.set_cons_succ]
        refine take 8 84 (v := .bool true) rfl rfl (by kernel_rfl) (by kernel_rfl) (by kernel_rfl) rfl (fun W hW => exec_move rfl rfl) (by assumption) ?_
        simp only [Act.put, List.setIfInBounds_toArray, List.set_cons_zero, List.set_cons_succ]
        refine take 9 85 (v := .slice p1 bs1.length c1) rfl rfl (by kernel_rfl) (by kernel_rfl) (by kernel_rfl) rfl (fun W hW => exec_move rfl rfl) (by assumption) ?_
        simp only [Act.put, List.setIfInBounds_toArray, List.set_cons_zero, List.set_cons_succ]
        refine take 10 86 (v := .slice p2 bs2.length c2) rfl rfl (by kernel_rfl) (by kernel_rfl) (by kernel_rfl) rfl (fun W hW => exec_move rfl rfl) (by assumption) ?_
        simp only [Act.put, List.setIfInBounds_toArray, List.set_cons_zero, List.set_cons_succ]
        refine take 12 88 (v := .agg x) rfl rfl (by kernel_rfl) (by kernel_rfl) (by kernel_rfl) rfl (fun W hW => exec_load rfl rfl ((HBX1.out.below hW).get hxs)) (by assumption) ?_
        simp only [Act.put, List.setIfInBounds_toArray, List.set_cons_zero, List.set_cons_succ]
        refine take 13 89 (v := .agg y) rfl rfl (by kernel_rfl) (by kernel_rfl) (by kernel_rfl) rfl (fun W hW => exec_load rfl rfl ((HBX2.out.below hW).get hys)) (by assumption) ?_
        simp only [Act.put, List.setIfInBounds_toArray, List.set_cons_zero, List.set_cons_succ]
        refine onlyCall 11 87 rfl rfl (by kernel_rfl) rfl (exec_call [.slice p1 bs1.length c1, .slice p2 bs2.length c2] rfl rfl Tryd.func9 (by kernel_rfl) (by kernel_rfl)) ?_
        refine (bytes_any (HD1.out.below hS) (HD2.out.below hS)).mono ?_
        rintro e w' ⟨rfl, rfl⟩
        rw [e1]
        refine ⟨_, rfl, .inr hS, ?_⟩
        simp only [Act.put, List.setIfInBounds_toArray, List.set_cons_zero, List.set_cons_succ]
        refine onlyCall 14 90 rfl rfl (by kernel_rfl) rfl (exec_call [.agg x, .agg y] rfl rfl Tryd.func15 (by kernel_rfl) (by kernel_rfl)) ?_
        refine (HA2.out _ (below_trans HCUR.out hS)).mono ?_
        rintro e W8 ⟨rfl, hb8⟩
        have hS8 : Below W7.heap.size W7 W8 := below_trans hS hb8
        refine ⟨_, rfl, .inr hS8, ?_⟩
        simp only [Act.put, List.setIfInBounds_toArray, List.set_cons_zero, List.set_cons_succ]
        refine take 15 91 (v := .bool false) rfl rfl (by kernel_rfl) (by kernel_rfl) (by kernel_rfl) rfl (fun W hW => exec_binbb rfl rfl rfl (hnn al W)) (by assumption) ?_
        simp only [Act.put, List.setIfInBounds_toArray, List.set_cons_zero, List.set_cons_succ]
        refine take 16 92 (v := .bool false) rfl rfl (by kernel_rfl) (by kernel_rfl) (by kernel_rfl) rfl (fun W hW => exec_move rfl rfl) (by assumption) ?_
        simp only [Act.put, List.setIfInBounds_toArray, List.set_cons_zero, List.set_cons_succ]
        refine take 17 93 (v := .slice p1 bs1.length c1) rfl rfl (by kernel_rfl) (by kernel_rfl) (by kernel_rfl) rfl (fun W hW => exec_move rfl rfl) (by assumption) ?_
        simp only [Act.put, List.setIfInBounds_toArray, List.set_cons_zero, List.set_cons_succ]
        refine take 18 94 (v := .slice p2 bs2.length c2) rfl rfl (by kernel_rfl) (by kernel_rfl) (by kernel_rfl) rfl (fun W hW => exec_move rfl rfl) (by assumption) ?_
        simp only [Act.put, List.setIfInBounds_toArray, List.set_cons_zero, List.set_cons_succ]
        refine onlyCall 19 95 rfl rfl (by kernel_rfl) rfl (exec_call [.slice p1 bs1.length c1, .slice p2 bs2.length c2] rfl rfl Tryd.func16 (by kernel_rfl) (by kernel_rfl)) ?_
        refine (begins_any (HD1.out.below hS8) (HD2.out.below hS8)).mono ?_
        rintro e W9 ⟨rfl, hbW9⟩
        rw [e2]
        have hSW9 : Below W7.heap.size W7 W9 := below_trans hS8 hbW9
        refine ⟨_, rfl, .inr hSW9, ?_⟩
        simp only [Act.put, List.setIfInBounds_toArray, List.set_cons_zero, List.set_cons_succ]
        refine take 20 96 (v := .bool false) rfl rfl (by kernel_rfl) (by kernel_rfl) (by kernel_rfl) rfl (fun W hW => rfl) (by assumption) ?_
        simp only [Act.put, List.setIfInBounds_toArray, List.set_cons_zero, List.set_cons_succ]
        refine take 21 97 (v := .bool false) rfl rfl (by kernel_rfl) (by kernel_rfl) (by kernel_rfl) rfl (fun W hW => exec_move rfl rfl) (by assumption) ?_
        simp only [Act.put, List.setIfInBounds_toArray, List.set_cons_zero, List.set_cons_succ]
        refine take 22 98 (v := .slice p2 bs2.length c2) rfl rfl (by kernel_rfl) (by kernel_rfl) (by kernel_rfl) rfl (fun W hW => exec_move rfl rfl) (by assumption) ?_
        simp only [Act.put, List.setIfInBounds_toArray, List.set_cons_zero, List.set_cons_succ]
        refine take 23 99 (v := .slice p1 bs1.length c1) rfl rfl (by kernel_rfl) (by kernel_rfl) (by kernel_rfl) rfl (fun W hW => exec_move rfl rfl) (by assumption) ?_
        simp only [Act.put, List.setIfInBounds_toArray, List.set_cons_zero, List.set_cons_succ]
        refine onlyCall 24 100 rfl rfl (by kernel_rfl) rfl (exec_call [.slice p2 bs2.length c2, .slice p1 bs1.length c1] rfl rfl Tryd.func16 (by kernel_rfl) (by kernel_rfl)) ?_
        refine (begins_any (HD2.out.below hSW9) (HD1.out.below hSW9)).mono ?_
        rintro e W10 ⟨rfl, hbW10⟩
        rw [e3]
        have hSW10 : Below W7.heap.size W7 W10 := below_trans hSW9 hbW10
        refine ⟨_, rfl, .inr hSW10, ?_⟩
        simp only [Act.put, List.setIfInBounds_toArray, List.set_cons_zero, List.set_cons_succ]
        refine take 25 101 (v := .bool false) rfl rfl (by kernel_rfl) (by kernel_rfl) (by kernel_rfl) rfl (fun W hW => rfl) (by assumption) ?_
        simp only [Act.put, List.setIfInBounds_toArray, List.set_cons_zero, List.set_cons_succ]
        refine take 26 102 (v := .bool false) rfl rfl (by kernel_rfl) (by kernel_rfl) (by kernel_rfl) rfl (fun W hW => rfl) (by assumption) ?_
        simp only [Act.put, List.setIfInBounds_toArray, List.set_cons_zero, List.set_cons_succ]
        refine done (by kernel_rfl) ?_ _
        replace HCUR := Lib.hid (below_trans HCUR.out hSW10)
        replace HRB := Lib.hid (HRB.out.below hSW10)
        clear hS hS8 hb8 hSW9 hSW10 hbW9 hbW10 HD1 HD2 HBX1 HBX2
        clear e1 e2 e3
        go_wp2_with (first
            | (go_at_call 11; refine (num_err _ _).mono ?_; rintro e w' ⟨rfl, rfl⟩)
            | (go_at_call 14
               (
                refine (HR2.out _ HCUR.out _ _ HRB.out).mono ?_
                rintro e W11 ⟨cs2, rfl, hcs2, hb11⟩
                replace hcs2 : VOwn W11 _ val0 cs2 := hcs2
                have HS2 := Lib.hid (st_val.fresh (P := Tryd.prog) (W := W11) hcs2.size6 hcs2.ones)
                have hcz2 := hcs2.size6
                replace HCUR := Lib.hid (below_trans HCUR.out hb11)
                try replace HRB := Lib.hid (HRB.out.below hb11)
                have HX2 := Lib.hid (hcs2.rd (by simp [val0, totV, totVs]))
                clear HR2 hcs2 hb11))
            | ((with_reducible apply op_store); exact HS2.out _ rfl; exact rfl; exact rfl
               (
                have hbn := below_new (w := W11) (.cells cs2 41)
                have HBX3 := Lib.hid (show Lies W11.heap.size 41 cs2 (W11.alloc (.cells cs2 41)) from heap_alloc_new W11 _)
                replace HCUR := Lib.hid (below_trans HCUR.out hbn)
                replace HX2 := Lib.hid (HX2.out.below hbn)
                try replace HD1 := Lib.hid (HD1.out.below hbn)
                try replace HD2 := Lib.hid (HD2.out.below hbn)
                try replace HX1 := Lib.hid (HX1.out.below hbn)
                try replace HXB := Lib.hid (HXB.out.below hbn)
                try replace HXC := Lib.hid (HXC.out.below hbn)
                try replace HBX1 := Lib.hid (HBX1.out.below hbn)
                try replace HBX2 := Lib.hid (HBX2.out.below hbn)
                try replace HRB := Lib.hid (HRB.out.below hbn)
                clear hbn HS2
                generalize W11.alloc (.cells cs2 41) = W11n at *
                generalize W11.heap.size = B11 at *))
            | ((with_reducible apply op_load); exact HBX3.out.get hcz2; exact rfl)
            | (go_at_call 13
               (
                refine (HC4.out _ HCUR.out _ HX2.out).mono ?_
                rintro e W12 ho
                obtain ⟨p12, c12, rfl, hd12, hb12⟩ := ho.rd
                replace HCUR := Lib.hid (below_trans HCUR.out hb12)
                try replace HRB := Lib.hid (HRB.out.below hb12)
                have HD12 := Lib.hid hd12
                clear HC4 ho hd12 hb12))
            | (go_at_call 9
               (
                refine (bytes_any HD12.out HRB.out).mono ?_
                rintro e w' ⟨rfl, rfl⟩
                have heq2 : decide (bs0 = bs0) = true := decide_eq_true rfl))
            | (go_at_call 5
               (
                refine (worksG_any (HE.out.b HCUR.out)).mono ?_
                rintro e W13 ⟨rfl, hb13⟩
                replace HCUR := Lib.hid (below_trans HCUR.out hb13)
                clear hb13)))
        go_ret
        exact ⟨rfl, HCUR.out⟩
  | some x0 =>
    rw [hb0] at HR2
    obtain ⟨ht0, hr0, ho0, hbb⟩ := readV_tot hb0
    have ho1 : outV x0 = bs0 := by unfold outV; rw [if_pos ho0]; exact hbb.symm
    have HC4 := Lib.hid (fun W (g : Below w.heap.size w W) (z : Array Value) (hz : VRd W x0 z) => codecValue_any (hE.b g) hz hr0 (by omega))
    rw [ho1, ho0] at HC4
    clear hb0 hbb ho1 ho0 hr0 hE
    cases ok1 : okV v
    · rw [ok1] at HC1
      clear HR1 HC3 HA1 hrd1 hboth ok1
      cases ok2 : okV u
      all_goals
        rw [ok2] at HC2
        clear ok2
      all_goals
        go_enter Tryd.func4, Tryd.ntmps4
        go_wp2_with (first
            | ((with_reducible apply op_load); exact HBX1.out.get hxs; exact rfl)
            | (go_at_call 12
               (
                refine (HZ1.out _ HCUR.out).mono ?_
                rintro e W1 ⟨⟨r, rfl, hr⟩, hb1⟩
                have z5 : ¬ (3000 : Int) < (r : Int) := by have := hr.1 (by omega); omega
                have z5b : decide ((3000 : Int) < (r : Int)) = false := decide_eq_false z5
                replace HCUR := Lib.hid (below_trans HCUR.out hb1)
                try replace HBX1 := Lib.hid (HBX1.out.below hb1)
                try replace HBX2 := Lib.hid (HBX2.out.below hb1)
                try replace HRB := Lib.hid (HRB.out.below hb1)
                clear HZ1 hr hb1))
            | ((with_reducible apply op_loadH); exact HBX2.out.get hys; exact rfl; exact rfl)
            | (go_at_call 12
               (
                refine (HZ2.out _ HCUR.out).mono ?_
                rintro e W2 ⟨⟨r2, rfl, hr2⟩, hb2⟩
                have z6 : ¬ (3000 : Int) < (r2 : Int) := by have := hr2.1 (by omega); omega
                have z6b : decide ((3000 : Int) < (r2 : Int)) = false := decide_eq_false z6
                replace HCUR := Lib.hid (below_trans HCUR.out hb2)
                try replace HBX1 := Lib.hid (HBX1.out.below hb2)
                try replace HBX2 := Lib.hid (HBX2.out.below hb2)
                try replace HRB := Lib.hid (HRB.out.below hb2)
                clear HZ2 hr2 hb2))
            | (go_at_call 13
               (
                refine (HC1.out _ HCUR.out).mono ?_
                rintro e W3 ho
                obtain ⟨p1, c1, rfl, hd1, hb3⟩ := ho.rd
                replace HCUR := Lib.hid (below_trans HCUR.out hb3)
                try replace HBX1 := Lib.hid (HBX1.out.below hb3)
                try replace HBX2 := Lib.hid (HBX2.out.below hb3)
                try replace HRB := Lib.hid (HRB.out.below hb3)
                have HD1 := Lib.hid hd1
                clear HC1 ho hd1 hb3))
            | ((with_reducible apply op_load); exact HBX2.out.get hys; exact rfl)
            | (go_at_call 13
               (
                refine (HC2.out _ HCUR.out).mono ?_
                rintro e W4 ho
                obtain ⟨p2, c2, rfl, hd2, hb4⟩ := ho.rd
                replace HCUR := Lib.hid (below_trans HCUR.out hb4)
                try replace HD1 := Lib.hid (HD1.out.below hb4)
                try replace HBX1 := Lib.hid (HBX1.out.below hb4)
                try replace HBX2 := Lib.hid (HBX2.out.below hb4)
                try replace HRB := Lib.hid (HRB.out.below hb4)
                have HD2 := Lib.hid hd2
                clear HC2 ho hd2 hb4))
            | (go_at_call 11; refine (num_err _ _).mono ?_; rintro e w' ⟨rfl, rfl⟩)
            | (go_at_call 14
               (
                refine (HR1.out _ HCUR.out _ _ HD1.out).mono ?_
                rintro e W5 ⟨cs, rfl, hcs, hb5⟩
                replace hcs : VOwn W5 _ v cs := hcs
                have HS := Lib.hid (st_val.fresh (P := Tryd.prog) (W := W5) hcs.size6 hcs.ones)
                have hcz := hcs.size6
                replace HCUR := Lib.hid (below_trans HCUR.out hb5)
                try replace HD1 := Lib.hid (HD1.out.below hb5)
                try replace HD2 := Lib.hid (HD2.out.below hb5)
                try replace HBX1 := Lib.hid (HBX1.out.below hb5)
                try replace HBX2 := Lib.hid (HBX2.out.below hb5)
                try replace HRB := Lib.hid (HRB.out.below hb5)
                have HX1 := Lib.hid (hcs.rd (by omega))
                clear HR1 hcs hb5))
            | ((with_reducible apply op_store); exact HS.out _ rfl; exact rfl; exact rfl
               (
                have hbn := below_new (w := W5) (.cells cs 41)
                have HBX3 := Lib.hid (show Lies W5.heap.size 41 cs (W5.alloc (.cells cs 41)) from heap_alloc_new W5 _)
                replace HCUR := Lib.hid (below_trans HCUR.out hbn)
                try replace HD1 := Lib.hid (HD1.out.below hbn)
                try replace HD2 := Lib.hid (HD2.out.below hbn)
                try replace HX1 := Lib.hid (HX1.out.below hbn)
                try replace HXB := Lib.hid (HXB.out.below hbn)
                try replace HXC := Lib.hid (HXC.out.below hbn)
                try replace HBX1 := Lib.hid (HBX1.out.below hbn)
                try replace HBX2 := Lib.hid (HBX2.out.below hbn)
                try replace HRB := Lib.hid (HRB.out.below hbn)
                clear hbn HS
                generalize W5.alloc (.cells cs 41) = W5n at *
                generalize W5.heap.size = B5 at *))
            | ((with_reducible apply op_load); exact HBX3.out.get hcz; exact rfl)
            | (go_at_call 13
               (
                refine (HC3.out _ HCUR.out _ HX1.out).mono ?_
                rintro e W6 ho
                obtain ⟨p6, c6, rfl, hd6, hb6⟩ := ho.rd
                replace HCUR := Lib.hid (below_trans HCUR.out hb6)
                try replace HD1 := Lib.hid (HD1.out.below hb6)
                try replace HD2 := Lib.hid (HD2.out.below hb6)
                try replace HX1 := Lib.hid (HX1.out.below hb6)
                try replace HBX1 := Lib.hid (HBX1.out.below hb6)
                try replace HBX2 := Lib.hid (HBX2.out.below hb6)
                try replace HBX3 := Lib.hid (HBX3.out.below hb6)
                try replace HRB := Lib.hid (HRB.out.below hb6)
                have HD6 := Lib.hid hd6
                clear HC3 ho hd6 hb6))
            | (go_at_call 9
               (
                refine (bytes_any HD6.out HD1.out).mono ?_
                rintro e w' ⟨rfl, rfl⟩
                have heq1 : decide (bs1 = bs1) = true := decide_eq_true rfl
                clear HD6))
            | ((with_reducible apply op_loadH); exact HBX3.out.get hcz; exact rfl; exact rfl)
            | ((with_reducible apply op_loadH); exact HBX1.out.get hxs; exact rfl; exact rfl)
            | (go_at_call 15
               (
                refine (HA1.out _ HCUR.out _ HX1.out).mono ?_
                rintro e W7 ⟨rfl, hb7⟩
                replace HCUR := Lib.hid (below_trans HCUR.out hb7)
                try replace HD1 := Lib.hid (HD1.out.below hb7)
                try replace HD2 := Lib.hid (HD2.out.below hb7)
                try replace HBX1 := Lib.hid (HBX1.out.below hb7)
                try replace HBX2 := Lib.hid (HBX2.out.below hb7)
                try replace HRB := Lib.hid (HRB.out.below hb7)
                clear HA1 hb7 HX1 HBX3)))
        refine plain_region_draws (fun W => Below W4.heap.size W4 W) (by kernel_rfl) (show Below W4.heap.size W4 W4.drew from (Below.refl _ _).drew) (fun hS => ?_)
        refine take 0 76 (v := .int .i64 2) rfl rfl (by kernel_rfl) (by kernel_rfl) (by kernel_rfl) rfl (fun W hW => exec_move rfl rfl) (by assumption) ?_
        simp only [Act.put, List.setIfInBounds_toArray, List.set_cons_zero, List.set_cons_succ]
        refine onlyCall 1 77 rfl rfl (by kernel_rfl) rfl (exec_call [.int .i64 2] rfl rfl Tryd.func11 (by kernel_rfl) (by kernel_rfl)) ?_
        refine (num_err _ _).mono ?_
        rintro e w' ⟨rfl, rfl⟩
        refine ⟨_, rfl, .inr hS, ?_⟩
        simp only [Act.put, List.setIfInBounds_toArray, List.set_cons_zero, List.set_cons_succ]
        refine take 2 78 (v := .bool false) rfl rfl (by kernel_rfl) (by kernel_rfl) (by kernel_rfl) rfl (fun W hW => exec_bini rfl rfl rfl (he2 W)) (by assumption) ?_
        simp only [Act.put, List.setIfInBounds_toArray, List.set_cons_zero, List.set_cons_succ]
        refine take 3 79 (v := .bool false) rfl rfl (by kernel_rfl) (by kernel_rfl) (by kernel_rfl) rfl (fun W hW => exec_move rfl rfl) (by assumption) ?_
        simp only [Act.put, List.setIfInBounds_toArray, List.set_cons_zero, List.set_cons_succ]
        refine takeNot 4 80 rfl rfl (by kernel_rfl) (by kernel_rfl) (by kernel_rfl) rfl (by assumption) ?_
        simp only [Act.put, List.setIfInBounds_toArray, List.set_cons_zero, List.set_cons_succ]
        refine onlyNot 5 81 rfl rfl (by kernel_rfl) rfl ?_ (.inr (by assumption))
        simp only [Act.put, List.setIfInBounds_toArray, List.set_cons_zero, List.set_cons_succ]
        refine takeNot 6 82 rfl rfl (by kernel_rfl) (by kernel_rfl) (by kernel_rfl) rfl (by assumption) ?_
        simp only [Act.put, List.setIfInBounds_toArray, List.set_cons_zero, List.set_cons_succ]
        refine take 7 83 (v := .bool false) rfl rfl (by kernel_rfl) (by kernel_rfl) (by kernel_rfl) rfl (fun W hW => rfl) (by assumption) ?_
        simp only [Act.put, List.setIfInBounds_toArray, List.set_cons_zero, List.set_cons_succ]
        refine take 8 84 (v := .bool false) rfl rfl (by kernel_rfl) (by kernel_rfl) (by kernel_rfl) rfl (fun W hW => exec_move rfl rfl) (by assumption) ?_
        simp only [Act.put, List.setIfInBounds_toArray, List.set_cons_zero, List.set_cons_succ]
        refine takeNot 9 85 rfl rfl (by kernel_rfl) (by kernel_rfl) (by kernel_rfl) rfl (by assumption) ?_
        simp only [Act.put, List.setIfInBounds_toArray, List.set_cons_zero, List.set_cons_succ]
        refine takeNot 10 86 rfl rfl (by kernel_rfl) (by kernel_rfl) (by kernel_rfl) rfl (by assumption) ?_
        simp only [Act.put, List.setIfInBounds_toArray, List.set_cons_zero, List.set_cons_succ]
        refine takeNot 12 88 rfl rfl (by kernel_rfl) (by kernel_rfl) (by kernel_rfl) rfl (by assumption) ?_
        simp only [Act.put, List.setIfInBounds_toArray, List.set_cons_zero, List.set_cons_succ]
        refine takeNot 13 89 rfl rfl (by kernel_rfl) (by kernel_rfl) (by kernel_rfl) rfl (by assumption) ?_
        simp only [Act.put, List.setIfInBounds_toArray, List.set_cons_zero, List.set_cons_succ]
        refine onlyNot 11 87 rfl rfl (by kernel_rfl) rfl ?_ (.inr (by assumption))
        simp only [Act.put, List.setIfInBounds_toArray, List.set_cons_zero, List.set_cons_succ]
        refine onlyNot 14 90 rfl rfl (by kernel_rfl) rfl ?_ (.inr (by assumption))
        simp only [Act.put, List.setIfInBounds_toArray, List.set_cons_zero, List.set_cons_succ]
        refine takeNot 15 91 rfl rfl (by kernel_rfl) (by kernel_rfl) (by kernel_rfl) rfl (by assumption) ?_
        simp only [Act.put, List.setIfInBounds_toArray, List.set_cons_zero, List.set_cons_succ]
        refine takeNot 16 92 rfl rfl (by kernel_rfl) (by kernel_rfl) (by kernel_rfl) rfl (by assumption) ?_
        simp only [Act.put, List.setIfInBounds_toArray, List.set_cons_zero, List.set_cons_succ]
        refine takeNot 17 93 rfl rfl (by kernel_rfl) (by kernel_rfl) (by kernel_rfl) rfl (by assumption) ?_
        simp only [Act.put, List.setIfInBounds_toArray, List.set_cons_zero, List.set_cons_succ]
        refine takeNot 18 94 rfl rfl (by kernel_rfl) (by kernel_rfl) (by kernel_rfl) rfl (by assumption) ?_
        simp only [Act.put, List.setIfInBounds_toArray, List.set_cons_zero, List.set_cons_succ]
        refine onlyNot 19 95 rfl rfl (by kernel_rfl) rfl ?_ (.inr (by assumption))
        simp only [Act.put, List.setIfInBounds_toArray, List.set_cons_zero, List.set_cons_succ]
        refine takeNot 20 96 rfl rfl (by kernel_rfl) (by kernel_rfl) (by kernel_rfl) rfl (by assumption) ?_
        simp only [Act.put, List.setIfInBounds_toArray, List.set_cons_zero, List.set_cons_succ]
        refine takeNot 21 97 rfl rfl (by kernel_rfl) (by kernel_rfl) (by kernel_rfl) rfl (by assumption) ?_
        simp only [Act.put, List.setIfInBounds_toArray, List.set_cons_zero, List.set_cons_succ]
        refine takeNot 22 98 rfl rfl (by kernel_rfl) (by kernel_rfl) (by kernel_rfl) rfl (by assumption) ?_
        simp only [Act.put, List.setIfInBounds_toArray, List.set_cons_zero, List.set_cons_succ]
        refine takeNot 23 99 rfl rfl (by kernel_rfl) (by kernel_rfl) (by kernel_rfl) rfl (by assumption) ?_
        simp only [Act.put, List.setIfInBounds_toArray, List.set_cons_zero, List.set_cons_succ]
        refine onlyNot 24 100 rfl rfl (by kernel_rfl) rfl ?_ (.inr (by assumption))
        simp only [Act.put, List.setIfInBounds_toArray, List.set_cons_zero, List.set_cons_succ]
        refine takeNot 25 101 rfl rfl (by kernel_rfl) (by kernel_rfl) (by kernel_rfl) rfl (by assumption) ?_
        simp only [Act.put, List.setIfInBounds_toArray, List.set_cons_zero, List.set_cons_succ]
        refine take 26 102 (v := .bool false) rfl rfl (by kernel_rfl) (by kernel_rfl) (by kernel_rfl) rfl (fun W hW => rfl) (by assumption) ?_
        simp only [Act.put, List.setIfInBounds_toArray, List.set_cons_zero, List.set_cons_succ]
        refine done (by kernel_rfl) ?_ _
        replace HCUR := Lib.hid (below_trans HCUR.out hS)
        replace HRB := Lib.hid (HRB.out.below hS)
        clear hS HD1 HD2 HBX1 HBX2
        go_wp2_with (first
            | (go_at_call 11; refine (num_err _ _).mono ?_; rintro e w' ⟨rfl, rfl⟩)
            | (go_at_call 14
               (
                refine (HR2.out _ HCUR.out _ _ HRB.out).mono ?_
                rintro e W11 ⟨cs2, rfl, hcs2, hb11⟩
                replace hcs2 : VOwn W11 _ x0 cs2 := hcs2
                have HS2 := Lib.hid (st_val.fresh (P := Tryd.prog) (W := W11) hcs2.size6 hcs2.ones)
                have hcz2 := hcs2.size6
                replace HCUR := Lib.hid (below_trans HCUR.out hb11)
                try replace HRB := Lib.hid (HRB.out.below hb11)
                have HX2 := Lib.hid (hcs2.rd (by omega))
                clear HR2 hcs2 hb11))
            | ((with_reducible apply op_store); exact HS2.out _ rfl; exact rfl; exact rfl
               (
                have hbn := below_new (w := W11) (.cells cs2 41)
                have HBX3 := Lib.hid (show Lies W11.heap.size 41 cs2 (W11.alloc (.cells cs2 41)) from heap_alloc_new W11 _)
                replace HCUR := Lib.hid (below_trans HCUR.out hbn)
                replace HX2 := Lib.hid (HX2.out.below hbn)
                try replace HD1 := Lib.hid (HD1.out.below hbn)
                try replace HD2 := Lib.hid (HD2.out.below hbn)
                try replace HX1 := Lib.hid (HX1.out.below hbn)
                try replace HXB := Lib.hid (HXB.out.below hbn)
                try replace HXC := Lib.hid (HXC.out.below hbn)
                try replace HBX1 := Lib.hid (HBX1.out.below hbn)
                try replace HBX2 := Lib.hid (HBX2.out.below hbn)
                try replace HRB := Lib.hid (HRB.out.below hbn)
                clear hbn HS2
                generalize W11.alloc (.cells cs2 41) = W11n at *
                generalize W11.heap.size = B11 at *))
            | ((with_reducible apply op_load); exact HBX3.out.get hcz2; exact rfl)
            | (go_at_call 13
               (
                refine (HC4.out _ HCUR.out _ HX2.out).mono ?_
                rintro e W12 ho
                obtain ⟨p12, c12, rfl, hd12, hb12⟩ := ho.rd
                replace HCUR := Lib.hid (below_trans HCUR.out hb12)
                try replace HRB := Lib.hid (HRB.out.below hb12)
                have HD12 := Lib.hid hd12
                clear HC4 ho hd12 hb12))
            | (go_at_call 9
               (
                refine (bytes_any HD12.out HRB.out).mono ?_
                rintro e w' ⟨rfl, rfl⟩
                have heq2 : decide (bs0 = bs0) = true := decide_eq_true rfl))
            | (go_at_call 5
               (
                refine (worksG_any (HE.out.b HCUR.out)).mono ?_
                rintro e W13 ⟨rfl, hb13⟩
                replace HCUR := Lib.hid (below_trans HCUR.out hb13)
                clear hb13)))
        go_ret
        exact ⟨rfl, HCUR.out⟩
    · have hrd := hrd1 ok1
      rw [hrd] at HR1
      rw [ok1] at HC1 HC3
      cases ok2 : okV u
      · rw [ok2] at HC2
        clear hrd hrd1 hboth ok1 ok2
        go_enter Tryd.func4, Tryd.ntmps4
        go_wp2_with (first
            | ((with_reducible apply op_load); exact HBX1.out.get hxs; exact rfl)
            | (go_at_call 12
               (
                refine (HZ1.out _ HCUR.out).mono ?_
                rintro e W1 ⟨⟨r, rfl, hr⟩, hb1⟩
                have z5 : ¬ (3000 : Int) < (r : Int) := by have := hr.1 (by omega); omega
                have z5b : decide ((3000 : Int) < (r : Int)) = false := decide_eq_false z5
                replace HCUR := Lib.hid (below_trans HCUR.out hb1)
                try replace HBX1 := Lib.hid (HBX1.out.below hb1)
                try replace HBX2 := Lib.hid (HBX2.out.below hb1)
                try replace HRB := Lib.hid (HRB.out.below hb1)
                clear HZ1 hr hb1))
            | ((with_reducible apply op_loadH); exact HBX2.out.get hys; exact rfl; exact rfl)
            | (go_at_call 12
               (
                refine (HZ2.out _ HCUR.out).mono ?_
                rintro e W2 ⟨⟨r2, rfl, hr2⟩, hb2⟩
                have z6 : ¬ (3000 : Int) < (r2 : Int) := by have := hr2.1 (by omega); omega
                have z6b : decide ((3000 : Int) < (r2 : Int)) = false := decide_eq_false z6
                replace HCUR := Lib.hid (below_trans HCUR.out hb2)
                try replace HBX1 := Lib.hid (HBX1.out.below hb2)
                try replace HBX2 := Lib.hid (HBX2.out.below hb2)
                try replace HRB := Lib.hid (HRB.out.below hb2)
                clear HZ2 hr2 hb2))
            | (go_at_call 13
               (
                refine (HC1.out _ HCUR.out).mono ?_
                rintro e W3 ho
                obtain ⟨p1, c1, rfl, hd1, hb3⟩ := ho.rd
                replace HCUR := Lib.hid (below_trans HCUR.out hb3)
                try replace HBX1 := Lib.hid (HBX1.out.below hb3)
                try replace HBX2 := Lib.hid (HBX2.out.below hb3)
                try replace HRB := Lib.hid (HRB.out.below hb3)
                have HD1 := Lib.hid hd1
                clear HC1 ho hd1 hb3))
            | ((with_reducible apply op_load); exact HBX2.out.get hys; exact rfl)
            | (go_at_call 13
               (
                refine (HC2.out _ HCUR.out).mono ?_
                rintro e W4 ho
                obtain ⟨p2, c2, rfl, hd2, hb4⟩ := ho.rd
                replace HCUR := Lib.hid (below_trans HCUR.out hb4)
                try replace HD1 := Lib.hid (HD1.out.below hb4)
                try replace HBX1 := Lib.hid (HBX1.out.below hb4)
                try replace HBX2 := Lib.hid (HBX2.out.below hb4)
                try replace HRB := Lib.hid (HRB.out.below hb4)
                have HD2 := Lib.hid hd2
                clear HC2 ho hd2 hb4))
            | (go_at_call 11; refine (num_err _ _).mono ?_; rintro e w' ⟨rfl, rfl⟩)
            | (go_at_call 14
               (
                refine (HR1.out _ HCUR.out _ _ HD1.out).mono ?_
                rintro e W5 ⟨cs, rfl, hcs, hb5⟩
                replace hcs : VOwn W5 _ v cs := hcs
                have HS := Lib.hid (st_val.fresh (P := Tryd.prog) (W := W5) hcs.size6 hcs.ones)
                have hcz := hcs.size6
                replace HCUR := Lib.hid (below_trans HCUR.out hb5)
                try replace HD1 := Lib.hid (HD1.out.below hb5)
                try replace HD2 := Lib.hid (HD2.out.below hb5)
                try replace HBX1 := Lib.hid (HBX1.out.below hb5)
                try replace HBX2 := Lib.hid (HBX2.out.below hb5)
                try replace HRB := Lib.hid (HRB.out.below hb5)
                have HX1 := Lib.hid (hcs.rd (by omega))
                clear HR1 hcs hb5))
            | ((with_reducible apply op_store); exact HS.out _ rfl; exact rfl; exact rfl
               (
                have hbn := below_new (w := W5) (.cells cs 41)
                have HBX3 := Lib.hid (show Lies W5.heap.size 41 cs (W5.alloc (.cells cs 41)) from heap_alloc_new W5 _)
                replace HCUR := Lib.hid (below_trans HCUR.out hbn)
                try replace HD1 := Lib.hid (HD1.out.below hbn)
                try replace HD2 := Lib.hid (HD2.out.below hbn)
                try replace HX1 := Lib.hid (HX1.out.below hbn)
                try replace HXB := Lib.hid (HXB.out.below hbn)
                try replace HXC := Lib.hid (HXC.out.below hbn)
                try replace HBX1 := Lib.hid (HBX1.out.below hbn)
                try replace HBX2 := Lib.hid (HBX2.out.below hbn)
                try replace HRB := Lib.hid (HRB.out.below hbn)
                clear hbn HS
                generalize W5.alloc (.cells cs 41) = W5n at *
                generalize W5.heap.size = B5 at *))
            | ((with_reducible apply op_load); exact HBX3.out.get hcz; exact rfl)
            | (go_at_call 13
               (
                refine (HC3.out _ HCUR.out _ HX1.out).mono ?_
                rintro e W6 ho
                obtain ⟨p6, c6, rfl, hd6, hb6⟩ := ho.rd
                replace HCUR := Lib.hid (below_trans HCUR.out hb6)
                try replace HD1 := Lib.hid (HD1.out.below hb6)
                try replace HD2 := Lib.hid (HD2.out.below hb6)
                try replace HX1 := Lib.hid (HX1.out.below hb6)
                try replace HBX1 := Lib.hid (HBX1.out.below hb6)
                try replace HBX2 := Lib.hid (HBX2.out.below hb6)
                try replace HBX3 := Lib.hid (HBX3.out.below hb6)
                try replace HRB := Lib.hid (HRB.out.below hb6)
                have HD6 := Lib.hid hd6
                clear HC3 ho hd6 hb6))
            | (go_at_call 9
               (
                refine (bytes_any HD6.out HD1.out).mono ?_
                rintro e w' ⟨rfl, rfl⟩
                have heq1 : decide (bs1 = bs1) = true := decide_eq_true rfl
                clear HD6))
            | ((with_reducible apply op_loadH); exact HBX3.out.get hcz; exact rfl; exact rfl)
            | ((with_reducible apply op_loadH); exact HBX1.out.get hxs; exact rfl; exact rfl)
            | (go_at_call 15
               (
                refine (HA1.out _ HCUR.out _ HX1.out).mono ?_
                rintro e W7 ⟨rfl, hb7⟩
                replace HCUR := Lib.hid (below_trans HCUR.out hb7)
                try replace HD1 := Lib.hid (HD1.out.below hb7)
                try replace HD2 := Lib.hid (HD2.out.below hb7)
                try replace HBX1 := Lib.hid (HBX1.out.below hb7)
                try replace HBX2 := Lib.hid (HBX2.out.below hb7)
                try replace HRB := Lib.hid (HRB.out.below hb7)
                clear HA1 hb7 HX1 HBX3)))
        refine plain_region_draws (fun W => Below W7.heap.size W7 W) (by kernel_rfl) (show Below W7.heap.size W7 W7.drew from (Below.refl _ _).drew) (fun hS => ?_)
        refine take 0 76 (v := .int .i64 0) rfl rfl (by kernel_rfl) (by kernel_rfl) (by kernel_rfl) rfl (fun W hW => exec_move rfl rfl) (by assumption) ?_
        simp only [Act.put, List.setIfInBounds_toArray, List.set_cons_zero, List.set_cons_succ]
        refine onlyCall 1 77 rfl rfl (by kernel_rfl) rfl (exec_call [.int .i64 0] rfl rfl Tryd.func11 (by kernel_rfl) (by kernel_rfl)) ?_
        refine (num_err _ _).mono ?_
        rintro e w' ⟨rfl, rfl⟩
        refine ⟨_, rfl, .inr hS, ?_⟩
        simp only [Act.put, List.setIfInBounds_toArray, List.set_cons_zero, List.set_cons_succ]
        refine take 2 78 (v := .bool true) rfl rfl (by kernel_rfl) (by kernel_rfl) (by kernel_rfl) rfl (fun W hW => exec_bini rfl rfl rfl (he0 W)) (by assumption) ?_
        simp only [Act.put, List.setIfInBounds_toArray, List.set_cons_zero, List.set_cons_succ]
        refine take 3 79 (v := .bool true) rfl rfl (by kernel_rfl) (by kernel_rfl) (by kernel_rfl) rfl (fun W hW => exec_move rfl rfl) (by assumption) ?_
        simp only [Act.put, List.setIfInBounds_toArray, List.set_cons_zero, List.set_cons_succ]
        refine take 4 80 (v := .int .i64 2) rfl rfl (by kernel_rfl) (by kernel_rfl) (by kernel_rfl) rfl (fun W hW => exec_move rfl rfl) (by assumption) ?_
        simp only [Act.put, List.setIfInBounds_toArray, List.set_cons_zero, List.set_cons_succ]
        refine onlyCall 5 81 rfl rfl (by kernel_rfl) rfl (exec_call [.int .i64 2] rfl rfl Tryd.func11 (by kernel_rfl) (by kernel_rfl)) ?_
        refine (num_err _ _).mono ?_
        rintro e w' ⟨rfl, rfl⟩
        refine ⟨_, rfl, .inr hS, ?_⟩
        simp only [Act.put, List.setIfInBounds_toArray, List.set_cons_zero, List.set_cons_succ]
        refine take 6 82 (v := .bool false) rfl rfl (by kernel_rfl) (by kernel_rfl) (by kernel_rfl) rfl (fun W hW => exec_bini rfl rfl rfl (he2 W)) (by assumption) ?_
        simp only [Act.put, List.setIfInBounds_toArray, List.set_cons_zero, List.set_cons_succ]
        refine take 7 83 (v := .bool false) rfl rfl (by kernel_rfl) (by kernel_rfl) (by kernel_rfl) rfl (fun W hW => rfl) (by assumption) ?_
        simp only [Act.put, List.setIfInBounds_toArray, List.set_cons_zero, List.set_cons_succ]
        refine take 8 84 (v := .bool false) rfl rfl (by kernel_rfl) (by kernel_rfl) (by kernel_rfl) rfl (fun W hW => exec_move rfl rfl) (by assumption) ?_
        simp only [Act.put, List.setIfInBounds_toArray, List.set_cons_zero, List.set_cons_succ]
        refine takeNot 9 85 rfl rfl (by kernel_rfl) (by kernel_rfl) (by kernel_rfl) rfl (by assumption) ?_
        simp only [Act.put, List.setIfInBounds_toArray, List.set_cons_zero, List.set_cons_succ]
        refine takeNot 10 86 rfl rfl (by kernel_rfl) (by kernel_rfl) (by kernel_rfl) rfl (by assumption) ?_
        simp only [Act.put, List.setIfInBounds_toArray, List.set_cons_zero, List.set_cons_succ]
        refine takeNot 12 88 rfl rfl (by kernel_rfl) (by kernel_rfl) (by kernel_rfl) rfl (by assumption) ?_
        simp only [Act.put, List.setIfInBounds_toArray, List.set_cons_zero, List.set_cons_succ]
        refine takeNot 13 89 rfl rfl (by kernel_rfl) (by kernel_rfl) (by kernel_rfl) rfl (by assumption) ?_
        simp only [Act.put, List.setIfInBounds_toArray, List.set_cons_zero, List.set_cons_succ]
        refine onlyNot 11 87 rfl rfl (by kernel_rfl) rfl ?_ (.inr (by assumption))
        simp only [Act.put, List.setIfInBounds_toArray, List.set_cons_zero, List.set_cons_succ]
        refine onlyNot 14 90 rfl rfl (by kernel_rfl) rfl ?_ (.inr (by assumption))
        simp only [Act.put, List.setIfInBounds_toArray, List.set_cons_zero, List.set_cons_succ]
        refine takeNot 15 91 rfl rfl (by kernel_rfl) (by kernel_rfl) (by kernel_rfl) rfl (by assumption) ?_
        simp only [Act.put, List.setIfInBounds_toArray, List.set_cons_zero, List.set_cons_succ]
        refine takeNot 16 92 rfl rfl (by kernel_rfl) (by kernel_rfl) (by kernel_rfl) rfl (by assumption) ?_
        simp only [Act.put, List.setIfInBounds_toArray, List.set_cons_zero, List.set_cons_succ]
        refine takeNot 17 93 rfl rfl (by kernel_rfl) (by kernel_rfl) (by kernel_rfl) rfl (by assumption) ?_
        simp only [Act.put, List.setIfInBounds_toArray, List.set_cons_zero, List.set_cons_succ]
        refine takeNot 18 94 rfl rfl (by kernel_rfl) (by kernel_rfl) (by kernel_rfl) rfl (by assumption) ?_
        simp only [Act.put, List.setIfInBounds_toArray, List.set_cons_zero, List.set_cons_succ]
        refine onlyNot 19 95 rfl rfl (by kernel_rfl) rfl ?_ (.inr (by assumption))
        simp only [Act.put, List.setIfInBounds_toArray, List.set_cons_zero, List.set_cons_succ]
        refine takeNot 20 96 rfl rfl (by kernel_rfl) (by kernel_rfl) (by kernel_rfl) rfl (by assumption) ?_
        simp only [Act.put, List.setIfInBounds_toArray, List.set_cons_zero, List.set_cons_succ]
        refine takeNot 21 97 rfl rfl (by kernel_rfl) (by kernel_rfl) (by kernel_rfl) rfl (by assumption) ?_
        simp only [Act.put, List.setIfInBounds_toArray, List.set_cons_zero, List.set_cons_succ]
        refine takeNot 22 98 rfl rfl (by kernel_rfl) (by kernel_rfl) (by kernel_rfl) rfl (by assumption) ?_
        simp only [Act.put, List.setIfInBounds_toArray, List.set_cons_zero, List.set_cons_succ]
        refine takeNot 23 99 rfl rfl (by kernel_rfl) (by kernel_rfl) (by kernel_rfl) rfl (by assumption) ?_
        simp only [Act.put, List.setIfInBounds_toArray, List.set_cons_zero, List.set_cons_succ]
        refine onlyNot 24 100 rfl rfl (by kernel_rfl) rfl ?_ (.inr (by assumption))
        simp only [Act.put, List.setIfInBounds_toArray, List.set_cons_zero, List.set_cons_succ]
        refine takeNot 25 101 rfl rfl (by kernel_rfl) (by kernel_rfl) (by kernel_rfl) rfl (by assumption) ?_
        simp only [Act.put, List.setIfInBounds_toArray, List.set_cons_zero, List.set_cons_succ]
        refine take 26 102 (v := .bool false) rfl rfl (by kernel_rfl) (by kernel_rfl) (by kernel_rfl) rfl (fun W hW => rfl) (by assumption) ?_
        simp only [Act.put, List.setIfInBounds_toArray, List.set_cons_zero, List.set_cons_succ]
        refine done (by kernel_rfl) ?_ _
        replace HCUR := Lib.hid (below_trans HCUR.out hS)
        replace HRB := Lib.hid (HRB.out.below hS)
        clear hS HD1 HD2 HBX1 HBX2
        go_wp2_with (first
            | (go_at_call 11; refine (num_err _ _).mono ?_; rintro e w' ⟨rfl, rfl⟩)
            | (go_at_call 14
               (
                refine (HR2.out _ HCUR.out _ _ HRB.out).mono ?_
                rintro e W11 ⟨cs2, rfl, hcs2, hb11⟩
                replace hcs2 : VOwn W11 _ x0 cs2 := hcs2
                have HS2 := Lib.hid (st_val.fresh (P := Tryd.prog) (W := W11) hcs2.size6 hcs2.ones)
                have hcz2 := hcs2.size6
                replace HCUR := Lib.hid (below_trans HCUR.out hb11)
                try replace HRB := Lib.hid (HRB.out.below hb11)
                have HX2 := Lib.hid (hcs2.rd (by omega))
                clear HR2 hcs2 hb11))
            | ((with_reducible apply op_store); exact HS2.out _ rfl; exact rfl; exact rfl
               (
                have hbn := below_new (w := W11) (.cells cs2 41)
                have HBX3 := Lib.hid (show Lies W11.heap.size 41 cs2 (W11.alloc (.cells cs2 41)) from heap_alloc_new W11 _)
                replace HCUR := Lib.hid (below_trans HCUR.out hbn)
                replace HX2 := Lib.hid (HX2.out.below hbn)
                try replace HD1 := Lib.hid (HD1.out.below hbn)
                try replace HD2 := Lib.hid (HD2.out.below hbn)
                try replace HX1 := Lib.hid (HX1.out.below hbn)
                try replace HXB := Lib.hid (HXB.out.below hbn)
                try replace HXC := Lib.hid (HXC.out.below hbn)
                try replace HBX1 := Lib.hid (HBX1.out.below hbn)
                try replace HBX2 := Lib.hid (HBX2.out.below hbn)
                try replace HRB := Lib.hid (HRB.out.below hbn)
                clear hbn HS2
                generalize W11.alloc (.cells cs2 41) = W11n at *
                generalize W11.heap.size = B11 at *))
            | ((with_reducible apply op_load); exact HBX3.out.get hcz2; exact rfl)
            | (go_at_call 13
               (
                refine (HC4.out _ HCUR.out _ HX2.out).mono ?_
                rintro e W12 ho
                obtain ⟨p12, c12, rfl, hd12, hb12⟩ := ho.rd
                replace HCUR := Lib.hid (below_trans HCUR.out hb12)
                try replace HRB := Lib.hid (HRB.out.below hb12)
                have HD12 := Lib.hid hd12
                clear HC4 ho hd12 hb12))
            | (go_at_call 9
               (
                refine (bytes_any HD12.out HRB.out).mono ?_
                rintro e w' ⟨rfl, rfl⟩
                have heq2 : decide (bs0 = bs0) = true := decide_eq_true rfl))
            | (go_at_call 5
               (
                refine (worksG_any (HE.out.b HCUR.out)).mono ?_
                rintro e W13 ⟨rfl, hb13⟩
                replace HCUR := Lib.hid (below_trans HCUR.out hb13)
                clear hb13)))
        go_ret
        exact ⟨rfl, HCUR.out⟩
      · obtain ⟨e1, e2, e3⟩ := hboth ok1 ok2
        rw [ok2] at HC2
        clear hrd hrd1 hboth ok1 ok2
        have HEQ := Lib.hid (And.intro e1 (And.intro e2 e3))
        clear e1 e2 e3
        go_enter Tryd.func4, Tryd.ntmps4
        go_wp2_with (first
            | ((with_reducible apply op_load); exact HBX1.out.get hxs; exact rfl)
            | (go_at_call 12
               (
                refine (HZ1.out _ HCUR.out).mono ?_
                rintro e W1 ⟨⟨r, rfl, hr⟩, hb1⟩
                have z5 : ¬ (3000 : Int) < (r : Int) := by have := hr.1 (by omega); omega
                have z5b : decide ((3000 : Int) < (r : Int)) = false := decide_eq_false z5
                replace HCUR := Lib.hid (below_trans HCUR.out hb1)
                try replace HBX1 := Lib.hid (HBX1.out.below hb1)
                try replace HBX2 := Lib.hid (HBX2.out.below hb1)
                try replace HRB := Lib.hid (HRB.out.below hb1)
                clear HZ1 hr hb1))
            | ((with_reducible apply op_loadH); exact HBX2.out.get hys; exact rfl; exact rfl)
            | (go_at_call 12
               (
                refine (HZ2.out _ HCUR.out).mono ?_
                rintro e W2 ⟨⟨r2, rfl, hr2⟩, hb2⟩
                have z6 : ¬ (3000 : Int) < (r2 : Int) := by have := hr2.1 (by omega); omega
                have z6b : decide ((3000 : Int) < (r2 : Int)) = false := decide_eq_false z6
                replace HCUR := Lib.hid (below_trans HCUR.out hb2)
                try replace HBX1 := Lib.hid (HBX1.out.below hb2)
                try replace HBX2 := Lib.hid (HBX2.out.below hb2)
                try replace HRB := Lib.hid (HRB.out.below hb2)
                clear HZ2 hr2 hb2))
            | (go_at_call 13
               (
                refine (HC1.out _ HCUR.out).mono ?_
                rintro e W3 ho
                obtain ⟨p1, c1, rfl, hd1, hb3⟩ := ho.rd
                replace HCUR := Lib.hid (below_trans HCUR.out hb3)
                try replace HBX1 := Lib.hid (HBX1.out.below hb3)
                try replace HBX2 := Lib.hid (HBX2.out.below hb3)
                try replace HRB := Lib.hid (HRB.out.below hb3)
                have HD1 := Lib.hid hd1
                clear HC1 ho hd1 hb3))
            | ((with_reducible apply op_load); exact HBX2.out.get hys; exact rfl)
            | (go_at_call 13
               (
                refine (HC2.out _ HCUR.out).mono ?_
                rintro e W4 ho
                obtain ⟨p2, c2, rfl, hd2, hb4⟩ := ho.rd
                replace HCUR := Lib.hid (below_trans HCUR.out hb4)
                try replace HD1 := Lib.hid (HD1.out.below hb4)
                try replace HBX1 := Lib.hid (HBX1.out.below hb4)
                try replace HBX2 := Lib.hid (HBX2.out.below hb4)
                try replace HRB := Lib.hid (HRB.out.below hb4)
                have HD2 := Lib.hid hd2
                clear HC2 ho hd2 hb4))
            | (go_at_call 11; refine (num_err _ _).mono ?_; rintro e w' ⟨rfl, rfl⟩)
            | (go_at_call 14
               (
                refine (HR1.out _ HCUR.out _ _ HD1.out).mono ?_
                rintro e W5 ⟨cs, rfl, hcs, hb5⟩
                replace hcs : VOwn W5 _ v cs := hcs
                have HS := Lib.hid (st_val.fresh (P := Tryd.prog) (W := W5) hcs.size6 hcs.ones)
                have hcz := hcs.size6
                replace HCUR := Lib.hid (below_trans HCUR.out hb5)
                try replace HD1 := Lib.hid (HD1.out.below hb5)
                try replace HD2 := Lib.hid (HD2.out.below hb5)
                try replace HBX1 := Lib.hid (HBX1.out.below hb5)
                try replace HBX2 := Lib.hid (HBX2.out.below hb5)
                try replace HRB := Lib.hid (HRB.out.below hb5)
                have HX1 := Lib.hid (hcs.rd (by omega))
                clear HR1 hcs hb5))
            | ((with_reducible apply op_store); exact HS.out _ rfl; exact rfl; exact rfl
               (
                have hbn := below_new (w := W5) (.cells cs 41)
                have HBX3 := Lib.hid (show Lies W5.heap.size 41 cs (W5.alloc (.cells cs 41)) from heap_alloc_new W5 _)
                replace HCUR := Lib.hid (below_trans HCUR.out hbn)
                try replace HD1 := Lib.hid (HD1.out.below hbn)
                try replace HD2 := Lib.hid (HD2.out.below hbn)
                try replace HX1 := Lib.hid (HX1.out.below hbn)
                try replace HXB := Lib.hid (HXB.out.below hbn)
                try replace HXC := Lib.hid (HXC.out.below hbn)
                try replace HBX1 := Lib.hid (HBX1.out.below hbn)
                try replace HBX2 := Lib.hid (HBX2.out.below hbn)
                try replace HRB := Lib.hid (HRB.out.below hbn)
                clear hbn HS
                generalize W5.alloc (.cells cs 41) = W5n at *
                generalize W5.heap.size = B5 at *))
            | ((with_reducible apply op_load); exact HBX3.out.get hcz; exact rfl)
            | (go_at_call 13
               (
                refine (HC3.out _ HCUR.out _ HX1.out).mono ?_
                rintro e W6 ho
                obtain ⟨p6, c6, rfl, hd6, hb6⟩ := ho.rd
                replace HCUR := Lib.hid (below_trans HCUR.out hb6)
                try replace HD1 := Lib.hid (HD1.out.below hb6)
                try replace HD2 := Lib.hid (HD2.out.below hb6)
                try replace HX1 := Lib.hid (HX1.out.below hb6)
                try replace HBX1 := Lib.hid (HBX1.out.below hb6)
                try replace HBX2 := Lib.hid (HBX2.out.below hb6)
                try replace HBX3 := Lib.hid (HBX3.out.below hb6)
                try replace HRB := Lib.hid (HRB.out.below hb6)
                have HD6 := Lib.hid hd6
                clear HC3 ho hd6 hb6))
            | (go_at_call 9
               (
                refine (bytes_any HD6.out HD1.out).mono ?_
                rintro e w' ⟨rfl, rfl⟩
                have heq1 : decide (bs1 = bs1) = true := decide_eq_true rfl
                clear HD6))
            | ((with_reducible apply op_loadH); exact HBX3.out.get hcz; exact rfl; exact rfl)
            | ((with_reducible apply op_loadH); exact HBX1.out.get hxs; exact rfl; exact rfl)
            | (go_at_call 15
               (
                refine (HA1.out _ HCUR.out _ HX1.out).mono ?_
                rintro e W7 ⟨rfl, hb7⟩
                replace HCUR := Lib.hid (below_trans HCUR.out hb7)
                try replace HD1 := Lib.hid (HD1.out.below hb7)
                try replace HD2 := Lib.hid (HD2.out.below hb7)
                try replace HBX1 := Lib.hid (HBX1.out.below hb7)
                try replace HBX2 := Lib.hid (HBX2.out.below hb7)
                try replace HRB := Lib.hid (HRB.out.below hb7)
                clear HA1 hb7 HX1 HBX3)))
        obtain ⟨e1, e2, e3⟩ := HEQ.out
        refine plain_region_draws (fun W => Below W7.heap.size W7 W) (by kernel_rfl) (show Below W7.heap.size W7 W7.drew from (Below.refl _ _).drew) (fun hS => ?_)
        refine take 0 76 (v := .int .i64 0) rfl rfl (by kernel_rfl) (by kernel_rfl) (by kernel_rfl) rfl (fun W hW => exec_move rfl rfl) (by assumption) ?_
        simp only [Act.put, List.setIfInBounds_toArray, List.set_cons_zero, List.set_cons_succ]
        refine onlyCall 1 77 rfl rfl (by kernel_rfl) rfl (exec_call [.int .i64 0] rfl rfl Tryd.func11 (by kernel_rfl) (by kernel_rfl)) ?_
        refine (num_err _ _).mono ?_
        rintro e w' ⟨rfl, rfl⟩
        refine ⟨_, rfl, .inr hS, ?_⟩
        simp only [Act.put, List.setIfInBounds_toArray, List.set_cons_zero, List.set_cons_succ]
        refine take 2 78 (v := .bool true) rfl rfl (by kernel_rfl) (by kernel_rfl) (by kernel_rfl) rfl (fun W hW => exec_bini rfl rfl rfl (he0 W)) (by assumption) ?_
        simp only [Act.put, List.setIfInBounds_toArray, List.set_cons_zero, List.set_cons_succ]
        refine take 3 79 (v := .bool true) rfl rfl (by kernel_rfl) (by kernel_rfl) (by kernel_rfl) rfl (fun W hW => exec_move rfl rfl) (by assumption) ?_
        simp only [Act.put, List.setIfInBounds_toArray, List.set_cons_zero, List.set_cons_succ]
        refine take 4 80 (v := .int .i64 0) rfl rfl (by kernel_rfl) (by kernel_rfl) (by kernel_rfl) rfl (fun W hW => exec_move rfl rfl) (by assumption) ?_
        simp only [Act.put, List.setIfInBounds_toArray, List.set_cons_zero, List.set_cons_succ]
        refine onlyCall 5 81 rfl rfl (by kernel_rfl) rfl (exec_call [.int .i64 0] rfl rfl Tryd.func11 (by kernel_rfl) (by kernel_rfl)) ?_
        refine (num_err _ _).mono ?_
        rintro e w' ⟨rfl, rfl⟩
        refine ⟨_, rfl, .inr hS, ?_⟩
        simp only [Act.put, List.setIfInBounds_toArray, List.set_cons_zero, List.set_cons_succ]
        refine take 6 82 (v := .bool true) rfl rfl (by kernel_rfl) (by kernel_rfl) (by kernel_rfl) rfl (fun W hW => exec_bini rfl rfl rfl (he0 W)) (by assumption) ?_
        simp only [Act.put, List.setIfInBounds_toArray, List.set_cons_zero, List.set_cons_succ]
        refine take 7 83 (v := .bool true) rfl rfl (by kernel_rfl) (by kernel_rfl) (by kernel_rfl) rfl (fun W hW => rfl) (by assumption) ?_
        simp only [Act.put, List.setIfInBounds_toArray, List.set_cons_zero, List.set_cons_succ]
        refine take 8 84 (v := .bool true) rfl rfl (by kernel_rfl) (by kernel_rfl) (by kernel_rfl) rfl (fun W hW => exec_move rfl rfl) (by assumption) ?_
        simp only [Act.put, List.setIfInBounds_toArray, List.set_cons_zero, List.set_cons_succ]
        refine take 9 85 (v := .slice p1 bs1.length c1) rfl rfl (by kernel_rfl) (by kernel_rfl) (by kernel_rfl) rfl (fun W hW => exec_move rfl rfl) (by assumption) ?_
        simp only [Act.put, List.setIfInBounds_toArray, List.set_cons_zero, List.set_cons_succ]
        refine take 10 86 (v := .slice p2 bs2.length c2) rfl rfl (by kernel_rfl) (by kernel_rfl) (by kernel_rfl) rfl (fun W hW => exec_move rfl rfl) (by assumption) ?_
        simp only [Act.put, List.setIfInBounds_toArray, List.set_cons_zero, List.set_cons_succ]
        refine take 12 88 (v := .agg x) rfl rfl (by kernel_rfl) (by kernel_rfl) (by kernel_rfl) rfl (fun W hW => exec_load rfl rfl ((HBX1.out.below hW).get hxs)) (by assumption) ?_
        simp only [Act.put, List.setIfInBounds_toArray, List.set_cons_zero, List.set_cons_succ]
        refine take 13 89 (v := .agg y) rfl rfl (by kernel_rfl) (by kernel_rfl) (by kernel_rfl) rfl (fun W hW => exec_load rfl rfl ((HBX2.out.below hW).get hys)) (by assumption) ?_
        simp only [Act.put, List.setIfInBounds_toArray, List.set_cons_zero, List.set_cons_succ]
        refine onlyCall 11 87 rfl rfl (by kernel_rfl) rfl (exec_call [.slice p1 bs1.length c1, .slice p2 bs2.length c2] rfl rfl Tryd.func9 (by kernel_rfl) (by kernel_rfl)) ?_
        refine (bytes_any (HD1.out.below hS) (HD2.out.below hS)).mono ?_
        rintro e w' ⟨rfl, rfl⟩
        rw [e1]
        refine ⟨_, rfl, .inr hS, ?_⟩
        simp only [Act.put, List.setIfInBounds_toArray, List.set_cons_zero, List.set_cons_succ]
        refine onlyCall 14 90 rfl rfl (by kernel_rfl) rfl (exec_call [.agg x, .agg y] rfl rfl Tryd.func15 (by kernel_rfl) (by kernel_rfl)) ?_
        refine (HA2.out _ (below_trans HCUR.out hS)).mono ?_
        rintro e W8 ⟨rfl, hb8⟩
        have hS8 : Below W7.heap.size W7 W8 := below_trans hS hb8
        refine ⟨_, rfl, .inr hS8, ?_⟩
        simp only [Act.put, List.setIfInBounds_toArray, List.set_cons_zero, List.set_cons_succ]
        refine take 15 91 (v := .bool false) rfl rfl (by kernel_rfl) (by kernel_rfl) (by kernel_rfl) rfl (fun W hW => exec_binbb rfl rfl rfl (hnn al W)) (by assumption) ?_
        simp only [Act.put, List.setIfInBounds_toArray, List.set_cons_zero, List.set_cons_succ]
        refine take 16 92 (v := .bool false) rfl rfl (by kernel_rfl) (by kernel_rfl) (by kernel_rfl) rfl (fun W hW => exec_move rfl rfl) (by assumption) ?_
        simp only [Act.put, List.setIfInBounds_toArray, List.set_cons_zero, List.set_cons_succ]
        refine take 17 93 (v := .slice p1 bs1.length c1) rfl rfl (by kernel_rfl) (by kernel_rfl) (by kernel_rfl) rfl (fun W hW => exec_move rfl rfl) (by assumption) ?_
        simp only [Act.put, List.setIfInBounds_toArray, List.set_cons_zero, List.set_cons_succ]
        refine take 18 94 (v := .slice p2 bs2.length c2) rfl rfl (by kernel_rfl) (by kernel_rfl) (by kernel_rfl) rfl (fun W hW => exec_move rfl rfl) (by assumption) ?_
        simp only [Act.put, List.setIfInBounds_toArray, List.set_cons_zero, List.set_cons_succ]
        refine onlyCall 19 95 rfl rfl (by kernel_rfl) rfl (exec_call [.slice p1 bs1.length c1, .slice p2 bs2.length c2] rfl rfl Tryd.func16 (by kernel_rfl) (by kernel_rfl)) ?_
        refine (begins_any (HD1.out.below hS8) (HD2.out.below hS8)).mono ?_
        rintro e W9 ⟨rfl, hbW9⟩
        rw [e2]
        have hSW9 : Below W7.heap.size W7 W9 := below_trans hS8 hbW9
        refine ⟨_, rfl, .inr hSW9, ?_⟩
        simp only [Act.put, List.setIfInBounds_toArray, List.set_cons_zero, List.set_cons_succ]
        refine take 20 96 (v := .bool false) rfl rfl (by kernel_rfl) (by kernel_rfl) (by kernel_rfl) rfl (fun W hW => rfl) (by assumption) ?_
        simp only [Act.put, List.setIfInBounds_toArray, List.set_cons_zero, List.set_cons_succ]
        refine take 21 97 (v := .bool false) rfl rfl (by kernel_rfl) (by kernel_rfl) (by kernel_rfl) rfl (fun W hW => exec_move rfl rfl) (by assumption) ?_
        simp only [Act.put, List.setIfInBounds_toArray, List.set_cons_zero, List.set_cons_succ]
        refine take 22 98 (v := .slice p2 bs2.length c2) rfl rfl (by kernel_rfl) (by kernel_rfl) (by kernel_rfl) rfl (fun W hW => exec_move rfl rfl) (by assumption) ?_
        simp only [Act.put, List.setIfInBounds_toArray, List.set_cons_zero, List.set_cons_succ]
        refine take 23 99 (v := .slice p1 bs1.length c1) rfl rfl (by kernel_rfl) (by kernel_rfl) (by kernel_rfl) rfl (fun W hW => exec_move rfl rfl) (by assumption) ?_
        simp only [Act.put, List.setIfInBounds_toArray, List.set_cons_zero, List.set_cons_succ]
        refine onlyCall 24 100 rfl rfl (by kernel_rfl) rfl (exec_call [.slice p2 bs2.length c2, .slice p1 bs1.length c1] rfl rfl Tryd.func16 (by kernel_rfl) (by kernel_rfl)) ?_
        refine (begins_any (HD2.out.below hSW9) (HD1.out.below hSW9)).mono ?_
        rintro e W10 ⟨rfl, hbW10⟩
        rw [e3]
        have hSW10 : Below W7.heap.size W7 W10 := below_trans hSW9 hbW10
        refine ⟨_, rfl, .inr hSW10, ?_⟩
        simp only [Act.put, List.setIfInBounds_toArray, List.set_cons_zero, List.set_cons_succ]
        refine take 25 101 (v := .bool false) rfl rfl (by kernel_rfl) (by kernel_rfl) (by kernel_rfl) rfl (fun W hW => rfl) (by assumption) ?_
        simp only [Act.put, List.setIfInBounds_toArray, List.set_cons_zero, List.set_cons_succ]
        refine take 26 102 (v := .bool false) rfl rfl (by kernel_rfl) (by kernel_rfl) (by kernel_rfl) rfl (fun W hW => rfl) (by assumption) ?_
        simp only [Act.put, List.setIfInBounds_toArray, List.set_cons_zero, List.set_cons_succ]
        refine done (by kernel_rfl) ?_ _
        replace HCUR := Lib.hid (below_trans HCUR.out hSW10)
        replace HRB := Lib.hid (HRB.out.below hSW10)
        clear hS hS8 hb8 hSW9 hSW10 hbW9 hbW10 HD1 HD2 HBX1 HBX2
        clear e1 e2 e3
        go_wp2_with (first
            | (go_at_call 11; refine (num_err _ _).mono ?_; rintro e w' ⟨rfl, rfl⟩)
            | (go_at_call 14
               (
                refine (HR2.out _ HCUR.out _ _ HRB.out).mono ?_
                rintro e W11 ⟨cs2, rfl, hcs2, hb11⟩
                replace hcs2 : VOwn W11 _ x0 cs2 := hcs2
                have HS2 := Lib.hid (st_val.fresh (P := Tryd.prog) (W := W11) hcs2.size6 hcs2.ones)
                have hcz2 := hcs2.size6
                replace HCUR := Lib.hid (below_trans HCUR.out hb11)
                try replace HRB := Lib.hid (HRB.out.below hb11)
                have HX2 := Lib.hid (hcs2.rd (by omega))
                clear HR2 hcs2 hb11))
            | ((with_reducible apply op_store); exact HS2.out _ rfl; exact rfl; exact rfl
               (
                have hbn := below_new (w := W11) (.cells cs2 41)
                have HBX3 := Lib.hid (show Lies W11.heap.size 41 cs2 (W11.alloc (.cells cs2 41)) from heap_alloc_new W11 _)
                replace HCUR := Lib.hid (below_trans HCUR.out hbn)
                replace HX2 := Lib.hid (HX2.out.below hbn)
                try replace HD1 := Lib.hid (HD1.out.below hbn)
                try replace HD2 := Lib.hid (HD2.out.below hbn)
                try replace HX1 := Lib.hid (HX1.out.below hbn)
                try replace HXB := Lib.hid (HXB.out.below hbn)
                try replace HXC := Lib.hid (HXC.out.below hbn)
                try replace HBX1 := Lib.hid (HBX1.out.below hbn)
                try replace HBX2 := Lib.hid (HBX2.out.below hbn)
                try replace HRB := Lib.hid (HRB.out.below hbn)
                clear hbn HS2
                generalize W11.alloc (.cells cs2 41) = W11n at *
                generalize W11.heap.size = B11 at *))
            | ((with_reducible apply op_load); exact HBX3.out.get hcz2; exact rfl)
            | (go_at_call 13
               (
                refine (HC4.out _ HCUR.out _ HX2.out).mono ?_
                rintro e W12 ho
                obtain ⟨p12, c12, rfl, hd12, hb12⟩ := ho.rd
                replace HCUR := Lib.hid (below_trans HCUR.out hb12)
                try replace HRB := Lib.hid (HRB.out.below hb12)
                have HD12 := Lib.hid hd12
                clear HC4 ho hd12 hb12))
            | (go_at_call 9
               (
                refine (bytes_any HD12.out HRB.out).mono ?_
                rintro e w' ⟨rfl, rfl⟩
                have heq2 : decide (bs0 = bs0) = true := decide_eq_true rfl))
            | (go_at_call 5
               (
                refine (worksG_any (HE.out.b HCUR.out)).mono ?_
                rintro e W13 ⟨rfl, hb13⟩
                replace HCUR := Lib.hid (below_trans HCUR.out hb13)
                clear hb13)))
        go_ret
        exact ⟨rfl, HCUR.out⟩
end Go.Proofs.YthdfedfholmbmaaDoor
