/- Texts that the proof shares (each declaration is a lemma of this layer). -/
import Derived.Test.YthdfedfholmbmaaDoorZNumbersa
import Derived.Test.YthdfedfholmbmaaDoorZNumbersb
import Derived.Test.YthdfedfholmbmaaDoorZNumbersc
import Derived.Test.YthdfedfholmbmaaDoorZNumbersd
import Derived.Recover
import Derived.Lib.Join
import Derived.Lib.ItoaNum
import Derived.Lib.Bytealg
import Derived.Lib.Small
import Derived.Lib.Replace
import Derived.Lib.SplitLaws
set_option linter.unusedSimpArgs false
set_option linter.unusedVariables false
namespace Go.Proofs.YthdfedfholmbmaaDoor
open Go.RowKit
section
variable {P : Program} {ops : Array Oper} {rest : List Oper} {Q : Exit → Act → World → Prop} {a : Act} {w w' : World} {dst : Option Tmp} {ty : TypeId} {pos : String} {af : Array Edge} {t : TypeId} {x y : Operand} {v : Value}
theorem op_loadG {b : Addr} {g : Nat × Bool} (hr : (loadVar t b).run P w = .ok v w) (hx : a.eval x = .pointer (some b)) (hw : Region.wanted (⟨dst, .load t x, ty, pos, af, some g⟩ : Oper) (yielded ops a.tmps) = true) (h : wpList P ops Q rest (a.put dst v) w) : wpList P ops Q (⟨dst, .load t x, ty, pos, af, some g⟩ :: rest) a w := wpList_runG hw (exec_load rfl hx hr) h
theorem results_cells2 {fn : Func} {p q : Tmp} {tz : TypeId} (h : fn.results = #[.cell p t, .cell q tz]) (tmps : Array Value) (w : World) (ad ad2 : Addr) (v v2 : Value)
    (hp : tmps.getD p undef = .pointer (some ad)) (hq : tmps.getD q undef = .pointer (some ad2)) (hl : (loadVar t ad).run P w = .ok v w) (hl2 : (loadVar tz ad2).run P w = .ok v2 w) : (results fn tmps).run P w = .ok (.tuple #[v, v2]) w := by
  have hp' : tmps[p]?.getD undef = .pointer (some ad) := by simpa using hp
  have hq' : tmps[q]?.getD undef = .pointer (some ad2) := by simpa using hq
  simp [results, h, hp', hq', asAddr, hl, hl2]
end
def mk1 (c : Array Value) : Value := c.getD 0 undef
structure VT (T : TypeId) (K : Nat) (mk : Array Value → Value) : Prop where
  put : ∀ {W : World} {g : Nat} {z c : Array Value}, c.size = K → (∀ u ∈ c.toList, u.oneCell' = true) → W.heap[g]? = some (.cells z T (0, 0)) → z.size = K → (storeVar T ⟨g, 0, none⟩ (mk c)).run Tryd.prog W = .ok () (W.setRow g c)
  get : ∀ {W : World} {g : Nat} {c : Array Value}, c.size = K → W.heap[g]? = some (.cells c T (0, 0)) → (loadVar T ⟨g, 0, none⟩).run Tryd.prog W = .ok (mk c) W
theorem VT.of {T : TypeId} {K : Nat} (h : StT Tryd.prog T K) : VT T K .agg := ⟨fun h1 h2 h3 h4 => h.put h1 h2 h3 h4, fun h1 h2 => h.get h1 h2⟩
theorem VT.one {T : TypeId} {d : TypeDesc} (hu : Tryd.prog.underlying T = some d) (hd : isAggD d = false) (hi : (Tryd.prog.info? T).map (·.size) = some 1) : VT T 1 mk1 := by
  refine ⟨fun {W g z c} h1 h2 h3 h4 => ?_, fun {W g c} h1 h2 => ?_⟩
  · obtain ⟨u, rfl⟩ : ∃ u, c = #[u] := by
      rcases c with ⟨l⟩
      match l, h1 with
      | [u], _ => exact ⟨u, rfl⟩
    have h1u : u.oneCell' = true := h2 u (by simp)
    have hc : u.cells = #[u] := by cases u <;> first | rfl | (simp [Value.oneCell'] at h1u)
    have hr := run_storeVar_row (P := Tryd.prog) W g T T z #[u] h3 hi (by simpa using h4) (by simp [h1u])
    have e : storeVar T ⟨g, 0, none⟩ (.agg #[u]) = storeVar T ⟨g, 0, none⟩ u := by unfold storeVar; rw [hc]; rfl
    rw [e] at hr
    exact hr
  · obtain ⟨u, rfl⟩ : ∃ u, c = #[u] := by
      rcases c with ⟨l⟩
      match l, h1 with
      | [u], _ => exact ⟨u, rfl⟩
    exact run_load1 hu (by revert hd; cases d <;> simp [isAggD]) (cellOf (o := 0) h2 rfl)
theorem vt_graph : VT 55 4 .agg := .of st_graph
theorem vt_val : VT 41 6 .agg := .of st_val
theorem vt_u64 : VT 22 1 mk1 := .one Tryd.underlying22 rfl (by kernel_rfl)
theorem vt_errno : VT 26 1 mk1 := .one Tryd.underlying26 rfl (by kernel_rfl)
section
variable {α : Type} {d : Dec α} {ok : α → Bool} {b s : List UInt8} {x : α}
theorem readW_none (h : d b = none) : readW d ok b = none := by unfold readW; rw [h]
theorem readW_left (h : d b = some (x, s)) (hs : s ≠ []) : readW d ok b = none := by
  unfold readW; rw [h]
  cases s with
  | nil => exact absurd rfl hs
  | cons => rfl
theorem readW_no (h : d b = some (x, [])) (hx : ok x = false) : readW d ok b = none := by unfold readW; rw [h]; simp [hx]
theorem readW_yes (h : d b = some (x, [])) (hx : ok x = true) : readW d ok b = some x := by unfold readW; rw [h]; simp [hx]
end
def ReadPost {α : Type} (w W : World) (X : Nat → Prop) (mk : Array Value → Value) (z : Array Value) (OK : World → α → Array Value → Prop) (Jn : World → Prop) (fails : Prop) (r : Option α) (e : Ending) (W' : World) : Prop :=
  Below w.heap.size w W' ∧ W.heap.size ≤ W'.heap.size ∧ (∀ b, b < W.heap.size → ¬ X b → W'.heap[b]? = W.heap[b]?) ∧ match r with
    | some x => ∃ cs, e = .returned (.tuple #[mk cs, .int .i64 0]) ∧ OK W' x cs ∧ Jn W'
    | none => e = .returned (.tuple #[mk z, .int .i64 290]) ∧ (fails → ∀ b, X b → W'.heap[b]? = W.heap[b]?)
theorem idleG (p q : Addr) (w : World) :
    CallsD Tryd.prog 69 #[.pointer (some p), .pointer (some q)] .returning w fun e u' w' => e = .returned (.tuple #[]) ∧ u' = .returning ∧ w' = w := by
  have hnil : ∀ w : World, (binOp BinOp.eql 20 .nilIface .nilIface).run Tryd.prog w = .ok (.bool true) w := fun _ => by kernel_rfl
  refine callsD_of_wpS Tryd.func69 rfl fun c₀ cs hu => ?_
  apply wpS_seq
  apply wpS_region
  simp [wpOpsS, go_sem, recoverD, hu, Tryd.ntmps69, Exit.thenS]
  have e : (#[.pointer (some p), .pointer (some q)] ++ (Array.replicate 11 undef).setIfInBounds 4 Value.nilIface : Array Value) = #[.pointer (some p), .pointer (some q), undef, undef, undef, undef, .nilIface, undef, undef, undef, undef, undef, undef] := rfl
  rw [e]
  clear e
  refine wpS_of_wp ?_
  have HU := Lib.hid hu
  clear hu
  go_wp2
  refine ⟨rfl, .returning, ?_, _, results_none rfl _ _ _, rfl, rfl, rfl⟩
  have hu := HU.out
  cases c₀
  simp_all
set_option maxRecDepth 100000 in
set_option maxHeartbeats 1000000 in
theorem caughtG {w : World} {P Q : Nat} {z : Array Value} {n : Int} (hp : w.heap[P]? = some (.cells z 55 (0, 0))) (hz : z.size = 4) (hq : w.heap[Q]? = some (.cells #[.int .i64 n] 26 (0, 0))) (hne : P ≠ Q) :
    CallsD Tryd.prog 69 #[.pointer (some ⟨P, 0, none⟩), .pointer (some ⟨Q, 0, none⟩)] (.panicking [{ v := badV, recovered := false }]) w fun e u' w' =>
      e = .returned (.tuple #[]) ∧ u' = .panicking [{ v := badV, recovered := true }] ∧ w'.heap[P]? = some (.cells #[.slice none 0 0, .slice none 0 0, .int .i64 0, .int .i64 0] 55 (0, 0)) ∧ w'.heap[Q]? = some (.cells #[.int .i64 290] 26 (0, 0)) ∧ Touch (fun x => x = P ∨ x = Q) w w' := by
  have hnil : ∀ w : World, (binOp BinOp.eql 20 badV .nilIface).run Tryd.prog w = .ok (.bool false) w := fun _ => by rfl
  have hta : ∀ w : World, (Instr.typeAssert badV 20 102 true).run Tryd.prog w = .ok (.tuple #[.agg #[], .bool true]) w := fun _ => by rfl
  have hB : Below w.heap.size w ((w.alloc (.cells #[] 102)).alloc (.cells #[.slice none 0 0, .slice none 0 0, .int .i64 0, .int .i64 0] 55)) := (below_new _).alloc (by simp) _
  have hlp := (Array.getElem?_eq_some_iff.1 hp).1
  have hlq := (Array.getElem?_eq_some_iff.1 hq).1
  have hp1 := belowBlk hB hlp hp
  have hq1 := belowBlk hB hlq hq
  have h4 : ((w.alloc (.cells #[] 102)).alloc (.cells #[.slice none 0 0, .slice none 0 0, .int .i64 0, .int .i64 0] 55)).heap[w.heap.size + 1]? = some (.cells #[.slice none 0 0, .slice none 0 0, .int .i64 0, .int .i64 0] 55 (0, 0)) := by
    simp only [heap_get_alloc, World.size_alloc]; rw [if_pos trivial]
  have hT1 : Touch (fun x => x = P ∨ x = Q) w ((w.alloc (.cells #[] 102)).alloc (.cells #[.slice none 0 0, .slice none 0 0, .int .i64 0, .int .i64 0] 55)) := ((Touch.refl _ _).alloc _).alloc _
  have HL := Lib.hid (vt_graph.get (c := #[.slice none 0 0, .slice none 0 0, .int .i64 0, .int .i64 0]) rfl h4)
  have HS := Lib.hid (vt_graph.put (c := #[.slice none 0 0, .slice none 0 0, .int .i64 0, .int .i64 0]) rfl (by simp [Value.oneCell']) hp1 hz)
  generalize hWa : (w.alloc (.cells #[] 102)).alloc (.cells #[.slice none 0 0, .slice none 0 0, .int .i64 0, .int .i64 0] 55) = Wa at *
  have hq2 := (setRow_other Wa P Q #[.slice none 0 0, .slice none 0 0, .int .i64 0, .int .i64 0] (fun e => hne e.symm)).trans hq1
  have hp2 := setRow_heap Wa P z #[.slice none 0 0, .slice none 0 0, .int .i64 0, .int .i64 0] _ _ hp1
  have hT2 : Touch (fun x => x = P ∨ x = Q) w (Wa.setRow P #[.slice none 0 0, .slice none 0 0, .int .i64 0, .int .i64 0]) := by
    have hs : (Wa.setRow P #[.slice none 0 0, .slice none 0 0, .int .i64 0, .int .i64 0]).heap.size = Wa.heap.size := by simp
    exact hT1.step (show Touch (fun x => x = P) Wa (Wa.setRow P #[.slice none 0 0, .slice none 0 0, .int .i64 0, .int .i64 0]) from ⟨rfl, rfl, rfl, by rw [hs]; exact Nat.le_refl _, fun b _ hb => setRow_other Wa P b #[.slice none 0 0, .slice none 0 0, .int .i64 0, .int .i64 0] hb⟩) (fun x _ h => .inl h)
  have HE := Lib.hid (vt_errno.put (c := #[.int .i64 290]) rfl (by simp [Value.oneCell']) hq2 rfl)
  have hp3 := (setRow_other (Wa.setRow P #[.slice none 0 0, .slice none 0 0, .int .i64 0, .int .i64 0]) Q P #[.int .i64 290] hne).trans hp2
  have hq3 := setRow_heap (Wa.setRow P #[.slice none 0 0, .slice none 0 0, .int .i64 0, .int .i64 0]) Q _ #[.int .i64 290] _ _ hq2
  have hT3 : Touch (fun x => x = P ∨ x = Q) w ((Wa.setRow P #[.slice none 0 0, .slice none 0 0, .int .i64 0, .int .i64 0]).setRow Q #[.int .i64 290]) := by
    have hs : ((Wa.setRow P #[.slice none 0 0, .slice none 0 0, .int .i64 0, .int .i64 0]).setRow Q #[.int .i64 290]).heap.size = (Wa.setRow P #[.slice none 0 0, .slice none 0 0, .int .i64 0, .int .i64 0]).heap.size := by simp
    exact hT2.step (show Touch (fun x => x = Q) (Wa.setRow P #[.slice none 0 0, .slice none 0 0, .int .i64 0, .int .i64 0]) ((Wa.setRow P #[.slice none 0 0, .slice none 0 0, .int .i64 0, .int .i64 0]).setRow Q #[.int .i64 290]) from ⟨rfl, rfl, rfl, by rw [hs]; exact Nat.le_refl _, fun b _ hb => setRow_other _ Q b _ hb⟩) (fun x _ h => .inr h)
  have HF := Lib.hid (And.intro hp3 (And.intro hq3 hT3))
  clear hB hp1 hq1 h4 hT1 hq2 hp2 hT2 hp3 hq3 hT3
  refine callsD_of_wpS Tryd.func69 rfl fun c₀ cs hu => ?_
  apply wpS_seq
  apply wpS_region
  simp [wpOpsS, go_sem, recoverD, hu, Tryd.ntmps69, Exit.thenS]
  have e : (#[.pointer (some ⟨P, 0, none⟩), .pointer (some ⟨Q, 0, none⟩)] ++ (Array.replicate 11 undef).setIfInBounds 4 badV : Array Value) = #[.pointer (some ⟨P, 0, none⟩), .pointer (some ⟨Q, 0, none⟩), undef, undef, undef, undef, badV, undef, undef, undef, undef, undef, undef] := rfl
  rw [e]
  clear e
  refine wpS_of_wp ?_
  have HU := Lib.hid hu
  clear hu
  go_wp2_with (first
    | ((with_reducible apply op_load); exact HL.out; exact rfl)
    | ((with_reducible apply op_store); exact HS.out; exact rfl; exact rfl)
    | ((with_reducible apply op_store); exact HE.out; exact rfl; exact rfl))
  refine ⟨rfl, .panicking [{ v := badV, recovered := true }], ?_, _, results_none rfl _ _ _, rfl, rfl, HF.out⟩
  rfl
theorem idleV (p q : Addr) (w : World) :
    CallsD Tryd.prog 57 #[.pointer (some p), .pointer (some q)] .returning w fun e u' w' => e = .returned (.tuple #[]) ∧ u' = .returning ∧ w' = w := by
  have hnil : ∀ w : World, (binOp BinOp.eql 20 .nilIface .nilIface).run Tryd.prog w = .ok (.bool true) w := fun _ => by kernel_rfl
  refine callsD_of_wpS Tryd.func57 rfl fun c₀ cs hu => ?_
  apply wpS_seq
  apply wpS_region
  simp [wpOpsS, go_sem, recoverD, hu, Tryd.ntmps57, Exit.thenS]
  have e : (#[.pointer (some p), .pointer (some q)] ++ (Array.replicate 11 undef).setIfInBounds 4 Value.nilIface : Array Value) = #[.pointer (some p), .pointer (some q), undef, undef, undef, undef, .nilIface, undef, undef, undef, undef, undef, undef] := rfl
  rw [e]
  clear e
  refine wpS_of_wp ?_
  have HU := Lib.hid hu
  clear hu
  go_wp2
  refine ⟨rfl, .returning, ?_, _, results_none rfl _ _ _, rfl, rfl, rfl⟩
  have hu := HU.out
  cases c₀
  simp_all
set_option maxRecDepth 100000 in
set_option maxHeartbeats 1000000 in
theorem caughtV {w : World} {P Q : Nat} {z : Array Value} {n : Int} (hp : w.heap[P]? = some (.cells z 41 (0, 0))) (hz : z.size = 6) (hq : w.heap[Q]? = some (.cells #[.int .i64 n] 26 (0, 0))) (hne : P ≠ Q) :
    CallsD Tryd.prog 57 #[.pointer (some ⟨P, 0, none⟩), .pointer (some ⟨Q, 0, none⟩)] (.panicking [{ v := badV, recovered := false }]) w fun e u' w' =>
      e = .returned (.tuple #[]) ∧ u' = .panicking [{ v := badV, recovered := true }] ∧ w'.heap[P]? = some (.cells #[.int .i64 0, .bool false, .int .i64 0, .string ⟨#[]⟩, .slice none 0 0, .slice none 0 0] 41 (0, 0)) ∧ w'.heap[Q]? = some (.cells #[.int .i64 290] 26 (0, 0)) ∧ Touch (fun x => x = P ∨ x = Q) w w' := by
  have hnil : ∀ w : World, (binOp BinOp.eql 20 badV .nilIface).run Tryd.prog w = .ok (.bool false) w := fun _ => by rfl
  have hta : ∀ w : World, (Instr.typeAssert badV 20 102 true).run Tryd.prog w = .ok (.tuple #[.agg #[], .bool true]) w := fun _ => by rfl
  have hB : Below w.heap.size w ((w.alloc (.cells #[] 102)).alloc (.cells #[.int .i64 0, .bool false, .int .i64 0, .string ⟨#[]⟩, .slice none 0 0, .slice none 0 0] 41)) := (below_new _).alloc (by simp) _
  have hlp := (Array.getElem?_eq_some_iff.1 hp).1
  have hlq := (Array.getElem?_eq_some_iff.1 hq).1
  have hp1 := belowBlk hB hlp hp
  have hq1 := belowBlk hB hlq hq
  have h4 : ((w.alloc (.cells #[] 102)).alloc (.cells #[.int .i64 0, .bool false, .int .i64 0, .string ⟨#[]⟩, .slice none 0 0, .slice none 0 0] 41)).heap[w.heap.size + 1]? = some (.cells #[.int .i64 0, .bool false, .int .i64 0, .string ⟨#[]⟩, .slice none 0 0, .slice none 0 0] 41 (0, 0)) := by
    simp only [heap_get_alloc, World.size_alloc]; rw [if_pos trivial]
  have hT1 : Touch (fun x => x = P ∨ x = Q) w ((w.alloc (.cells #[] 102)).alloc (.cells #[.int .i64 0, .bool false, .int .i64 0, .string ⟨#[]⟩, .slice none 0 0, .slice none 0 0] 41)) := ((Touch.refl _ _).alloc _).alloc _
  have HL := Lib.hid (vt_val.get (c := #[.int .i64 0, .bool false, .int .i64 0, .string ⟨#[]⟩, .slice none 0 0, .slice none 0 0]) rfl h4)
  have HS := Lib.hid (vt_val.put (c := #[.int .i64 0, .bool false, .int .i64 0, .string ⟨#[]⟩, .slice none 0 0, .slice none 0 0]) rfl (by simp [Value.oneCell']) hp1 hz)
  generalize hWa : (w.alloc (.cells #[] 102)).alloc (.cells #[.int .i64 0, .bool false, .int .i64 0, .string ⟨#[]⟩, .slice none 0 0, .slice none 0 0] 41) = Wa at *
  have hq2 := (setRow_other Wa P Q #[.int .i64 0, .bool false, .int .i64 0, .string ⟨#[]⟩, .slice none 0 0, .slice none 0 0] (fun e => hne e.symm)).trans hq1
  have hp2 := setRow_heap Wa P z #[.int .i64 0, .bool false, .int .i64 0, .string ⟨#[]⟩, .slice none 0 0, .slice none 0 0] _ _ hp1
  have hT2 : Touch (fun x => x = P ∨ x = Q) w (Wa.setRow P #[.int .i64 0, .bool false, .int .i64 0, .string ⟨#[]⟩, .slice none 0 0, .slice none 0 0]) := by
    have hs : (Wa.setRow P #[.int .i64 0, .bool false, .int .i64 0, .string ⟨#[]⟩, .slice none 0 0, .slice none 0 0]).heap.size = Wa.heap.size := by simp
    exact hT1.step (show Touch (fun x => x = P) Wa (Wa.setRow P #[.int .i64 0, .bool false, .int .i64 0, .string ⟨#[]⟩, .slice none 0 0, .slice none 0 0]) from ⟨rfl, rfl, rfl, by rw [hs]; exact Nat.le_refl _, fun b _ hb => setRow_other Wa P b #[.int .i64 0, .bool false, .int .i64 0, .string ⟨#[]⟩, .slice none 0 0, .slice none 0 0] hb⟩) (fun x _ h => .inl h)
  have HE := Lib.hid (vt_errno.put (c := #[.int .i64 290]) rfl (by simp [Value.oneCell']) hq2 rfl)
  have hp3 := (setRow_other (Wa.setRow P #[.int .i64 0, .bool false, .int .i64 0, .string ⟨#[]⟩, .slice none 0 0, .slice none 0 0]) Q P #[.int .i64 290] hne).trans hp2
  have hq3 := setRow_heap (Wa.setRow P #[.int .i64 0, .bool false, .int .i64 0, .string ⟨#[]⟩, .slice none 0 0, .slice none 0 0]) Q _ #[.int .i64 290] _ _ hq2
  have hT3 : Touch (fun x => x = P ∨ x = Q) w ((Wa.setRow P #[.int .i64 0, .bool false, .int .i64 0, .string ⟨#[]⟩, .slice none 0 0, .slice none 0 0]).setRow Q #[.int .i64 290]) := by
    have hs : ((Wa.setRow P #[.int .i64 0, .bool false, .int .i64 0, .string ⟨#[]⟩, .slice none 0 0, .slice none 0 0]).setRow Q #[.int .i64 290]).heap.size = (Wa.setRow P #[.int .i64 0, .bool false, .int .i64 0, .string ⟨#[]⟩, .slice none 0 0, .slice none 0 0]).heap.size := by simp
    exact hT2.step (show Touch (fun x => x = Q) (Wa.setRow P #[.int .i64 0, .bool false, .int .i64 0, .string ⟨#[]⟩, .slice none 0 0, .slice none 0 0]) ((Wa.setRow P #[.int .i64 0, .bool false, .int .i64 0, .string ⟨#[]⟩, .slice none 0 0, .slice none 0 0]).setRow Q #[.int .i64 290]) from ⟨rfl, rfl, rfl, by rw [hs]; exact Nat.le_refl _, fun b _ hb => setRow_other _ Q b _ hb⟩) (fun x _ h => .inr h)
  have HF := Lib.hid (And.intro hp3 (And.intro hq3 hT3))
  clear hB hp1 hq1 h4 hT1 hq2 hp2 hT2 hp3 hq3 hT3
  refine callsD_of_wpS Tryd.func57 rfl fun c₀ cs hu => ?_
  apply wpS_seq
  apply wpS_region
  simp [wpOpsS, go_sem, recoverD, hu, Tryd.ntmps57, Exit.thenS]
  have e : (#[.pointer (some ⟨P, 0, none⟩), .pointer (some ⟨Q, 0, none⟩)] ++ (Array.replicate 11 undef).setIfInBounds 4 badV : Array Value) = #[.pointer (some ⟨P, 0, none⟩), .pointer (some ⟨Q, 0, none⟩), undef, undef, undef, undef, badV, undef, undef, undef, undef, undef, undef] := rfl
  rw [e]
  clear e
  refine wpS_of_wp ?_
  have HU := Lib.hid hu
  clear hu
  go_wp2_with (first
    | ((with_reducible apply op_load); exact HL.out; exact rfl)
    | ((with_reducible apply op_store); exact HS.out; exact rfl; exact rfl)
    | ((with_reducible apply op_store); exact HE.out; exact rfl; exact rfl))
  refine ⟨rfl, .panicking [{ v := badV, recovered := true }], ?_, _, results_none rfl _ _ _, rfl, rfl, HF.out⟩
  rfl
theorem idleN (p q : Addr) (w : World) :
    CallsD Tryd.prog 47 #[.pointer (some p), .pointer (some q)] .returning w fun e u' w' => e = .returned (.tuple #[]) ∧ u' = .returning ∧ w' = w := by
  have hnil : ∀ w : World, (binOp BinOp.eql 20 .nilIface .nilIface).run Tryd.prog w = .ok (.bool true) w := fun _ => by kernel_rfl
  refine callsD_of_wpS Tryd.func47 rfl fun c₀ cs hu => ?_
  apply wpS_seq
  apply wpS_region
  simp [wpOpsS, go_sem, recoverD, hu, Tryd.ntmps47, Exit.thenS]
  have e : (#[.pointer (some p), .pointer (some q)] ++ (Array.replicate 11 undef).setIfInBounds 4 Value.nilIface : Array Value) = #[.pointer (some p), .pointer (some q), undef, undef, undef, undef, .nilIface, undef, undef, undef, undef, undef, undef] := rfl
  rw [e]
  clear e
  refine wpS_of_wp ?_
  have HU := Lib.hid hu
  clear hu
  go_wp2
  refine ⟨rfl, .returning, ?_, _, results_none rfl _ _ _, rfl, rfl, rfl⟩
  have hu := HU.out
  cases c₀
  simp_all
set_option maxRecDepth 100000 in
set_option maxHeartbeats 1000000 in
theorem caughtN {w : World} {P Q : Nat} {z : Array Value} {n : Int} (hp : w.heap[P]? = some (.cells z 22 (0, 0))) (hz : z.size = 1) (hq : w.heap[Q]? = some (.cells #[.int .i64 n] 26 (0, 0))) (hne : P ≠ Q) :
    CallsD Tryd.prog 47 #[.pointer (some ⟨P, 0, none⟩), .pointer (some ⟨Q, 0, none⟩)] (.panicking [{ v := badV, recovered := false }]) w fun e u' w' =>
      e = .returned (.tuple #[]) ∧ u' = .panicking [{ v := badV, recovered := true }] ∧ w'.heap[P]? = some (.cells #[.int .u64 0] 22 (0, 0)) ∧ w'.heap[Q]? = some (.cells #[.int .i64 290] 26 (0, 0)) ∧ Touch (fun x => x = P ∨ x = Q) w w' := by
  have hnil : ∀ w : World, (binOp BinOp.eql 20 badV .nilIface).run Tryd.prog w = .ok (.bool false) w := fun _ => by rfl
  have hta : ∀ w : World, (Instr.typeAssert badV 20 102 true).run Tryd.prog w = .ok (.tuple #[.agg #[], .bool true]) w := fun _ => by rfl
  have hB : Below w.heap.size w (w.alloc (.cells #[] 102)) := below_new _
  have hlp := (Array.getElem?_eq_some_iff.1 hp).1
  have hlq := (Array.getElem?_eq_some_iff.1 hq).1
  have hp1 := belowBlk hB hlp hp
  have hq1 := belowBlk hB hlq hq
  have hT1 : Touch (fun x => x = P ∨ x = Q) w (w.alloc (.cells #[] 102)) := (Touch.refl _ _).alloc _
  have HS := Lib.hid (vt_u64.put (c := #[.int .u64 0]) rfl (by simp [Value.oneCell']) hp1 hz)
  generalize hWa : w.alloc (.cells #[] 102) = Wa at *
  have hq2 := (setRow_other Wa P Q #[.int .u64 0] (fun e => hne e.symm)).trans hq1
  have hp2 := setRow_heap Wa P z #[.int .u64 0] _ _ hp1
  have hT2 : Touch (fun x => x = P ∨ x = Q) w (Wa.setRow P #[.int .u64 0]) := by
    have hs : (Wa.setRow P #[.int .u64 0]).heap.size = Wa.heap.size := by simp
    exact hT1.step (show Touch (fun x => x = P) Wa (Wa.setRow P #[.int .u64 0]) from ⟨rfl, rfl, rfl, by rw [hs]; exact Nat.le_refl _, fun b _ hb => setRow_other Wa P b #[.int .u64 0] hb⟩) (fun x _ h => .inl h)
  have HE := Lib.hid (vt_errno.put (c := #[.int .i64 290]) rfl (by simp [Value.oneCell']) hq2 rfl)
  have hp3 := (setRow_other (Wa.setRow P #[.int .u64 0]) Q P #[.int .i64 290] hne).trans hp2
  have hq3 := setRow_heap (Wa.setRow P #[.int .u64 0]) Q _ #[.int .i64 290] _ _ hq2
  have hT3 : Touch (fun x => x = P ∨ x = Q) w ((Wa.setRow P #[.int .u64 0]).setRow Q #[.int .i64 290]) := by
    have hs : ((Wa.setRow P #[.int .u64 0]).setRow Q #[.int .i64 290]).heap.size = (Wa.setRow P #[.int .u64 0]).heap.size := by simp
    exact hT2.step (show Touch (fun x => x = Q) (Wa.setRow P #[.int .u64 0]) ((Wa.setRow P #[.int .u64 0]).setRow Q #[.int .i64 290]) from ⟨rfl, rfl, rfl, by rw [hs]; exact Nat.le_refl _, fun b _ hb => setRow_other _ Q b _ hb⟩) (fun x _ h => .inr h)
  have HF := Lib.hid (And.intro hp3 (And.intro hq3 hT3))
  clear hB hp1 hq1 hT1 hq2 hp2 hT2 hp3 hq3 hT3
  refine callsD_of_wpS Tryd.func47 rfl fun c₀ cs hu => ?_
  apply wpS_seq
  apply wpS_region
  simp [wpOpsS, go_sem, recoverD, hu, Tryd.ntmps47, Exit.thenS]
  have e : (#[.pointer (some ⟨P, 0, none⟩), .pointer (some ⟨Q, 0, none⟩)] ++ (Array.replicate 11 undef).setIfInBounds 4 badV : Array Value) = #[.pointer (some ⟨P, 0, none⟩), .pointer (some ⟨Q, 0, none⟩), undef, undef, undef, undef, badV, undef, undef, undef, undef, undef, undef] := rfl
  rw [e]
  clear e
  refine wpS_of_wp ?_
  have HU := Lib.hid hu
  clear hu
  go_wp2_with (first
    | ((with_reducible apply op_store); exact HS.out; exact rfl; exact rfl)
    | ((with_reducible apply op_store); exact HE.out; exact rfl; exact rfl))
  refine ⟨rfl, .panicking [{ v := badV, recovered := true }], ?_, _, results_none rfl _ _ _, rfl, rfl, HF.out⟩
  rfl
end Go.Proofs.YthdfedfholmbmaaDoor

namespace Go.Proofs.YthdfedfholmbmaaDoor
open Go.RowKit
structure RdMid {α : Type} (TY : TypeId) (w W : World) (X : Nat → Prop) (OK : World → α → Array Value → Prop) (Jn : World → Prop) (x : α) (cs : Array Value) (W3 : World) : Prop where
  size : W.heap.size + 3 ≤ W3.heap.size
  b : Below w.heap.size w W3
  keep : ∀ b, b < W.heap.size → ¬ X b → W3.heap[b]? = W.heap[b]?
  q6 : W3.heap[W.heap.size]? = some (.cells cs TY (0, 0))
  q7 : W3.heap[W.heap.size + 1]? = some (.cells #[.int .i64 0] 26 (0, 0))
  ok : OK W3 x cs
  jn : Jn W3
section
variable {α : Type} {TY : TypeId} {w W W2 W3 W4 : World} {X : Nat → Prop} {OK : World → α → Array Value → Prop} {Jn : World → Prop} {x : α} {cs cz z : Array Value} {mk : Array Value → Value} {fails : Prop} {r : Option α}
theorem RdMid.step (h : RdMid TY w W X OK Jn x cs W3) (hw : w.heap.size ≤ W.heap.size) (hOKk : ∀ (W1 W2 : World) x cs, OK W1 x cs → (∀ b, W.heap.size + 3 ≤ b → b < W1.heap.size → W2.heap[b]? = W1.heap[b]?) → OK W2 x cs) (hJn : ∀ W1 W2 : World, Jn W1 → (∀ b, b < W.heap.size → W2.heap[b]? = W1.heap[b]?) → Jn W2)
    (g : Touch (fun b => b = W.heap.size ∨ b = W.heap.size + 1) W3 W4) (q6 : W4.heap[W.heap.size]? = some (.cells cs TY (0, 0))) (q7 : W4.heap[W.heap.size + 1]? = some (.cells #[.int .i64 0] 26 (0, 0))) : RdMid TY w W X OK Jn x cs W4 :=
  ⟨Nat.le_trans h.size g.size, g.below h.b (fun b hb he => by omega) (by have := h.size; omega),
    fun b hb hx => (g.block b (by have := h.size; omega) (by omega)).trans (h.keep b hb hx), q6, q7,
    hOKk _ _ _ _ h.ok fun b h1 h2 => g.block b h2 (by omega), hJn _ _ h.jn fun b hb => g.block b (by have := h.size; omega) (by omega)⟩
theorem RdMid.below (h : RdMid TY w W X OK Jn x cs W3) (hw : w.heap.size ≤ W.heap.size) (hOKk : ∀ (W1 W2 : World) x cs, OK W1 x cs → (∀ b, W.heap.size + 3 ≤ b → b < W1.heap.size → W2.heap[b]? = W1.heap[b]?) → OK W2 x cs) (hJn : ∀ W1 W2 : World, Jn W1 → (∀ b, b < W.heap.size → W2.heap[b]? = W1.heap[b]?) → Jn W2)
    (g : Below W3.heap.size W3 W4) : RdMid TY w W X OK Jn x cs W4 :=
  h.step hw hOKk hJn (Touch.of_below g fun b h1 h2 => absurd h1 (by omega)) (belowBlk g (by have := h.size; omega) h.q6) (belowBlk g (by have := h.size; omega) h.q7)
theorem touch_row (W3 : World) (b : Nat) (c : Array Value) {S : Nat → Prop} (hS : S b) : Touch S W3 (W3.setRow b c) :=
  ⟨rfl, rfl, rfl, by simp, fun y _ hy => setRow_other W3 b y c (fun e => hy (e ▸ hS))⟩
theorem RdMid.set6 (h : RdMid TY w W X OK Jn x cs W3) (hw : w.heap.size ≤ W.heap.size) (hOKk : ∀ (W1 W2 : World) x cs, OK W1 x cs → (∀ b, W.heap.size + 3 ≤ b → b < W1.heap.size → W2.heap[b]? = W1.heap[b]?) → OK W2 x cs) (hJn : ∀ W1 W2 : World, Jn W1 → (∀ b, b < W.heap.size → W2.heap[b]? = W1.heap[b]?) → Jn W2) : RdMid TY w W X OK Jn x cs (W3.setRow W.heap.size cs) :=
  h.step hw hOKk hJn (touch_row W3 _ _ (.inl rfl)) (setRow_heap W3 _ _ cs _ _ h.q6) ((setRow_other W3 _ _ cs (by omega)).trans h.q7)
theorem RdMid.set7 (h : RdMid TY w W X OK Jn x cs W3) (hw : w.heap.size ≤ W.heap.size) (hOKk : ∀ (W1 W2 : World) x cs, OK W1 x cs → (∀ b, W.heap.size + 3 ≤ b → b < W1.heap.size → W2.heap[b]? = W1.heap[b]?) → OK W2 x cs) (hJn : ∀ W1 W2 : World, Jn W1 → (∀ b, b < W.heap.size → W2.heap[b]? = W1.heap[b]?) → Jn W2) : RdMid TY w W X OK Jn x cs (W3.setRow (W.heap.size + 1) #[.int .i64 0]) :=
  h.step hw hOKk hJn (touch_row W3 _ _ (.inr rfl)) ((setRow_other W3 _ _ _ (by omega)).trans h.q6) (setRow_heap W3 _ _ _ _ _ h.q7)
theorem RdMid.first (hw : w.heap.size ≤ W.heap.size) (hX : ∀ b, X b → b < W.heap.size) (hOKk : ∀ (W1 W2 : World) x cs, OK W1 x cs → (∀ b, W.heap.size + 3 ≤ b → b < W1.heap.size → W2.heap[b]? = W1.heap[b]?) → OK W2 x cs) (hJn : ∀ W1 W2 : World, Jn W1 → (∀ b, b < W.heap.size → W2.heap[b]? = W1.heap[b]?) → Jn W2)
    (hs2 : W.heap.size + 3 ≤ W2.heap.size) (hb2 : Below w.heap.size w W2) (hk : ∀ b, b < W.heap.size → ¬ X b → W2.heap[b]? = W.heap[b]?) (h6 : W2.heap[W.heap.size]? = some (.cells z TY (0, 0))) (h7 : W2.heap[W.heap.size + 1]? = some (.cells #[.int .i64 0] 26 (0, 0))) (ho : OK W2 x cs) (hj : Jn W2) :
    RdMid TY w W X OK Jn x cs (W2.setRow W.heap.size cs) := by
  have g := touch_row W2 W.heap.size cs (S := fun b => b = W.heap.size ∨ b = W.heap.size + 1) (.inl rfl)
  exact ⟨Nat.le_trans hs2 g.size, g.below hb2 (fun b hb he => by omega) (by omega), fun b hb hx => (g.block b (by omega) (by omega)).trans (hk b hb hx), setRow_heap W2 _ _ cs _ _ h6, (setRow_other W2 _ _ cs (by omega)).trans h7, hOKk _ _ _ _ ho fun b h1 h2 => g.block b h2 (by omega), hJn _ _ hj fun b hb => g.block b (by omega) (by omega)⟩
theorem RdMid.bad (h : RdMid TY w W X OK Jn x cs W3) (hw : w.heap.size ≤ W.heap.size) (g : Touch (fun b => b = W.heap.size ∨ b = W.heap.size + 1) W3 W4) (hr : r = none) (hf : ¬ fails) : ReadPost w W X mk z OK Jn fails r (.returned (.tuple #[mk z, .int .i64 290])) W4 := by
  subst hr
  exact ⟨g.below h.b (fun b hb he => by omega) (by have := h.size; omega), by have := h.size; have := g.size; omega, fun b hb hx => (g.block b (by have := h.size; omega) (by omega)).trans (h.keep b hb hx), rfl, fun k => absurd k hf⟩
theorem RdMid.good (h : RdMid TY w W X OK Jn x cs W3) (hr : r = some x) : ReadPost w W X mk z OK Jn fails r (.returned (.tuple #[mk cs, .int .i64 0])) W3 := by
  subst hr
  exact ⟨h.b, by have := h.size; omega, h.keep, cs, rfl, h.ok, h.jn⟩
end
end Go.Proofs.YthdfedfholmbmaaDoor

namespace Go.Proofs.YthdfedfholmbmaaDoor
open Go.RowKit
theorem leavesG_bad {fn : Func} {tmps : Array Value} {R : Ending → World → Prop} {W2 : World} {z : Array Value} {n : Int} {B6 B7 : Nat} (h6 : W2.heap[B6]? = some (.cells z 55 (0, 0))) (hz : z.size = 4) (h7 : W2.heap[B7]? = some (.cells #[.int .i64 n] 26 (0, 0))) (hne : B6 ≠ B7)
    (hres : fn.results = #[.cell 6 55, .cell 7 26]) (t6 : tmps.getD 6 undef = .pointer (some ⟨B6, 0, none⟩)) (t7 : tmps.getD 7 undef = .pointer (some ⟨B7, 0, none⟩))
    (hR : ∀ W3, Touch (fun x => x = B6 ∨ x = B7) W2 W3 → R (.returned (.tuple #[.agg #[.slice none 0 0, .slice none 0 0, .int .i64 0, .int .i64 0], .int .i64 290])) W3) :
    Leaves Tryd.prog fn tmps R [{ target := .fn (.func 69) #[.pointer (some ⟨B6, 0, none⟩), .pointer (some ⟨B7, 0, none⟩)], args := #[] }] (.panicking [{ v := badV, recovered := false }]) W2 := by
  refine leaves_cons (f := 69) (args := #[.pointer (some ⟨B6, 0, none⟩), .pointer (some ⟨B7, 0, none⟩)]) (by simp) (enters_plain Tryd.func69 rfl rfl _ _) ((caughtG h6 hz h7 hne).mono ?_)
  rintro e u' w' ⟨rfl, rfl, g1, g2, gT⟩
  exact ⟨_, results_cells2 hres _ _ ⟨B6, 0, none⟩ ⟨B7, 0, none⟩ (.agg #[.slice none 0 0, .slice none 0 0, .int .i64 0, .int .i64 0]) (.int .i64 290) t6 t7 (vt_graph.get rfl g1) (vt_errno.get rfl g2), hR _ gT⟩
theorem leavesG_ok {fn : Func} {tmps : Array Value} {R : Ending → World → Prop} {W2 : World} {z : Array Value} {B6 B7 : Nat} (h6 : W2.heap[B6]? = some (.cells z 55 (0, 0))) (hz : z.size = 4) (h7 : W2.heap[B7]? = some (.cells #[.int .i64 0] 26 (0, 0)))
    (hres : fn.results = #[.cell 6 55, .cell 7 26]) (t6 : tmps.getD 6 undef = .pointer (some ⟨B6, 0, none⟩)) (t7 : tmps.getD 7 undef = .pointer (some ⟨B7, 0, none⟩))
    (hR : R (.returned (.tuple #[.agg z, .int .i64 0])) W2) :
    Leaves Tryd.prog fn tmps R [{ target := .fn (.func 69) #[.pointer (some ⟨B6, 0, none⟩), .pointer (some ⟨B7, 0, none⟩)], args := #[] }] .returning W2 := by
  refine leaves_cons (f := 69) (args := #[.pointer (some ⟨B6, 0, none⟩), .pointer (some ⟨B7, 0, none⟩)]) (by simp) (enters_plain Tryd.func69 rfl rfl _ _) ((idleG _ _ _).mono ?_)
  rintro e u' w' ⟨rfl, rfl, rfl⟩
  exact ⟨_, results_cells2 hres _ _ ⟨B6, 0, none⟩ ⟨B7, 0, none⟩ (.agg z) (.int .i64 0) t6 t7 (vt_graph.get hz h6) (vt_errno.get rfl h7), hR⟩
set_option maxRecDepth 100000 in
set_option maxHeartbeats 16000000 in
theorem readG_any {α : Type} (d : Dec α) (okB : α → Bool) {w W : World} {p : Option Addr} {c : Nat} {bs : List UInt8} (hb : Below w.heap.size w W) (hrd : RdB w (.slice p bs.length c) bs) (hlb : bs.length ≤ 1000000) (X : Nat → Prop) (hX : ∀ b, X b → b < W.heap.size)
    (Jn : World → Prop) (hJn : ∀ W1 W2 : World, Jn W1 → (∀ b, b < W.heap.size → W2.heap[b]? = W1.heap[b]?) → Jn W2)
    (OK : World → α → Array Value → Prop) (hOKs : ∀ W1 x cs, OK W1 x cs → cs.size = 4 ∧ ∀ u ∈ cs.toList, u.oneCell' = true)
    (hOKk : ∀ (W1 W2 : World) x cs, OK W1 x cs → (∀ b, W.heap.size + 3 ≤ b → b < W1.heap.size → W2.heap[b]? = W1.heap[b]?) → OK W2 x cs)
    (one : ∀ W1 : World, W1.heap.size = W.heap.size + 3 → RSt 73 w W1 (W.heap.size + 2) bs → (∀ b, b < W.heap.size → W1.heap[b]? = W.heap[b]?) → Calls Tryd.prog 38 #[.pointer (some ⟨W.heap.size + 2, 0, none⟩)] W1 fun e W2 =>
      W1.heap.size ≤ W2.heap.size ∧ Below w.heap.size w W2 ∧ (∀ b, b < W1.heap.size → b ≠ W.heap.size + 2 → ¬ X b → W2.heap[b]? = W1.heap[b]?) ∧ ((d bs = none ∧ e = given ∧ ∀ b, X b → W2.heap[b]? = W1.heap[b]?) ∨ ∃ x s cs, d bs = some (x, s) ∧ e = .returned (.agg cs) ∧ OK W2 x cs ∧ RSt 73 w W2 (W.heap.size + 2) s ∧ s.length ≤ bs.length ∧ Jn W2))
    (fine : ∀ W1 x s cs, d bs = some (x, s) → OK W1 x cs → Below w.heap.size w W1 → Calls Tryd.prog 43 #[.agg cs] W1 fun e W2 => e = .returned (.bool (okB x)) ∧ Below W1.heap.size W1 W2) :
    Calls Tryd.prog 37 #[.slice p bs.length c, .func (.func 38) #[] #[], .func (.func 43) #[] #[]] W (ReadPost w W X .agg #[.slice none 0 0, .slice none 0 0, .int .i64 0, .int .i64 0] OK Jn (d bs = none) (readW d okB bs)) := by
  have zl : (bs.length : Int) ≤ 1000000 := by omega
  have hws := hb.size
  have hb1 : Below W.heap.size W (((W.alloc (.cells #[.slice none 0 0, .slice none 0 0, .int .i64 0, .int .i64 0] 55)).alloc (.cells #[.int .i64 0] 26)).alloc (.cells #[.slice p bs.length c] 73)) := ((below_new _).alloc (by simp) _).alloc (by simp; omega) _
  have p6 : (((W.alloc (.cells #[.slice none 0 0, .slice none 0 0, .int .i64 0, .int .i64 0] 55)).alloc (.cells #[.int .i64 0] 26)).alloc (.cells #[.slice p bs.length c] 73)).heap[W.heap.size]? = some (.cells #[.slice none 0 0, .slice none 0 0, .int .i64 0, .int .i64 0] 55 (0, 0)) := by
    simp only [heap_get_alloc, World.size_alloc]; rw [if_neg (by omega), if_neg (by omega), if_pos trivial]
  have p7 : (((W.alloc (.cells #[.slice none 0 0, .slice none 0 0, .int .i64 0, .int .i64 0] 55)).alloc (.cells #[.int .i64 0] 26)).alloc (.cells #[.slice p bs.length c] 73)).heap[W.heap.size + 1]? = some (.cells #[.int .i64 0] 26 (0, 0)) := by
    simp only [heap_get_alloc, World.size_alloc]; rw [if_neg (by omega), if_pos trivial]
  have p8 : (((W.alloc (.cells #[.slice none 0 0, .slice none 0 0, .int .i64 0, .int .i64 0] 55)).alloc (.cells #[.int .i64 0] 26)).alloc (.cells #[.slice p bs.length c] 73)).heap[W.heap.size + 2]? = some (.cells #[.slice p bs.length c] 73 (0, 0)) := by
    have e : W.heap.size + 2 = W.heap.size + 1 + 1 := rfl
    rw [e]; simp only [heap_get_alloc, World.size_alloc]; rw [if_pos trivial]
  have hsz : (((W.alloc (.cells #[.slice none 0 0, .slice none 0 0, .int .i64 0, .int .i64 0] 55)).alloc (.cells #[.int .i64 0] 26)).alloc (.cells #[.slice p bs.length c] 73)).heap.size = W.heap.size + 3 := by simp
  have hone := one _ hsz ⟨below_trans hb hb1, by omega, p, c, p8, hrd⟩ (fun b hbb => hb1.block b hbb)
  have HO := Lib.hid hone
  have HP := Lib.hid (And.intro hb1 (And.intro p6 (And.intro p7 hsz)))
  have HFN := Lib.hid fine
  have HOS := Lib.hid hOKs
  have HOK := Lib.hid hOKk
  have HJ := Lib.hid hJn
  have HB0 := Lib.hid hb
  clear hone hb1 p6 p7 p8 fine hOKs hOKk hJn one hrd hb
  have back : ∀ W2 W3 : World, (((W.alloc (.cells #[.slice none 0 0, .slice none 0 0, .int .i64 0, .int .i64 0] 55)).alloc (.cells #[.int .i64 0] 26)).alloc (.cells #[.slice p bs.length c] 73)).heap.size ≤ W2.heap.size → (∀ b, b < (((W.alloc (.cells #[.slice none 0 0, .slice none 0 0, .int .i64 0, .int .i64 0] 55)).alloc (.cells #[.int .i64 0] 26)).alloc (.cells #[.slice p bs.length c] 73)).heap.size → b ≠ W.heap.size + 2 → ¬ X b → W2.heap[b]? = (((W.alloc (.cells #[.slice none 0 0, .slice none 0 0, .int .i64 0, .int .i64 0] 55)).alloc (.cells #[.int .i64 0] 26)).alloc (.cells #[.slice p bs.length c] 73)).heap[b]?) →
      W2.heap.size ≤ W3.heap.size → (∀ b, b < W2.heap.size → b ≠ W.heap.size → b ≠ W.heap.size + 1 → W3.heap[b]? = W2.heap[b]?) → W.heap.size ≤ W3.heap.size ∧ ∀ b, b < W.heap.size → ¬ X b → W3.heap[b]? = W.heap[b]? := by
    intro W2 W3 h1 h2 h3 h4
    have hs := HP.out.2.2.2
    exact ⟨by omega, fun b hb1 hbx => (h4 b (by omega) (by omega) (by omega)).trans ((h2 b (by omega) (by omega) hbx).trans (HP.out.1.block b hb1))⟩
  have HBK := Lib.hid back
  clear back
  refine calls_of_wp_defers Tryd.func37 rfl ?_
  simp only [Tryd.ntmps37, List.size_toArray, List.length_cons, List.length_nil, Nat.reduceAdd, Nat.reduceSub, Array.replicate_succ, Array.replicate_zero, List.push_toArray, List.append_toArray, List.nil_append, List.cons_append]
  have hres : Tryd.f37.results = #[.cell 6 55, .cell 7 26] := rfl
  cases hd : d bs with
  | none =>
    have HRW := Lib.hid (readW_none (ok := okB) hd)
    have HD := Lib.hid hd
    clear hd
    go_wp2_with (go_at_call 38; refine HO.out.mono ?_; rintro e W2 ⟨hs2, hb2, hk2, ⟨_, rfl, hx2⟩ | ⟨x, s, cs, he, _⟩⟩; rotate_left; exact absurd he (by rw [HD.out]; simp); have H2 := Lib.hid (And.intro hs2 (And.intro hb2 (And.intro hk2 hx2))); clear hs2 hb2 hk2 hx2)
    obtain ⟨hs2, hb2, hk2, hx2⟩ := H2.out
    obtain ⟨hb1, p6, p7, hsz⟩ := HP.out
    have hs3 : W.heap.size + 3 ≤ W2.heap.size := by omega
    refine leavesG_bad (n := 0) ((hk2 _ (by omega) (by omega) (fun h => by have := hX _ h; omega)).trans p6) rfl ((hk2 _ (by omega) (by omega) (fun h => by have := hX _ h; omega)).trans p7) (by omega) hres rfl rfl fun W3 hT => ?_
    obtain ⟨g1, g2⟩ := HBK.out W2 W3 hs2 hk2 hT.size (fun b hb h6 h7 => hT.block b hb (fun h => h.elim h6 h7))
    refine ⟨hT.below hb2 (fun b hb he => by omega) (by omega), g1, g2, ?_⟩
    rw [HRW.out]
    exact ⟨rfl, fun _ b hb => (hT.block b (by have := hX b hb; omega) (by have := hX b hb; omega)).trans ((hx2 b hb).trans (hb1.block b (hX b hb)))⟩
  | some pr =>
    obtain ⟨x, s⟩ := pr
    have HD := Lib.hid hd
    clear hd
    have hND : ¬ (d bs = none) := by rw [HD.out]; simp
    have HND := Lib.hid hND
    clear hND
    have mid : ∀ W2 cs, (((W.alloc (.cells #[.slice none 0 0, .slice none 0 0, .int .i64 0, .int .i64 0] 55)).alloc (.cells #[.int .i64 0] 26)).alloc (.cells #[.slice p bs.length c] 73)).heap.size ≤ W2.heap.size → Below w.heap.size w W2 → (∀ b, b < (((W.alloc (.cells #[.slice none 0 0, .slice none 0 0, .int .i64 0, .int .i64 0] 55)).alloc (.cells #[.int .i64 0] 26)).alloc (.cells #[.slice p bs.length c] 73)).heap.size → b ≠ W.heap.size + 2 → ¬ X b → W2.heap[b]? = (((W.alloc (.cells #[.slice none 0 0, .slice none 0 0, .int .i64 0, .int .i64 0] 55)).alloc (.cells #[.int .i64 0] 26)).alloc (.cells #[.slice p bs.length c] 73)).heap[b]?) →
        OK W2 x cs → RSt 73 w W2 (W.heap.size + 2) s → Jn W2 → W2.heap[W.heap.size]? = some (.cells #[.slice none 0 0, .slice none 0 0, .int .i64 0, .int .i64 0] 55 (0, 0)) ∧ RdMid 55 w W X OK Jn x cs (W2.setRow W.heap.size cs) ∧ ∃ p' c', (W2.setRow W.heap.size cs).cell? ⟨W.heap.size + 2, 0, none⟩ = some (.slice p' s.length c') := by
      intro W2 cs hs2 hb2 hk2 hO hR hj
      obtain ⟨hb1, p6, p7, hsz⟩ := HP.out
      have h6 := (hk2 W.heap.size (by omega) (by omega) (fun h => by have := hX _ h; omega)).trans p6
      obtain ⟨p', c', hq, _⟩ := hR.box
      exact ⟨h6, RdMid.first hws hX HOK.out HJ.out (by omega) hb2 (fun b hb hx => (hk2 b (by omega) (by omega) hx).trans (hb1.block b hb)) h6 ((hk2 (W.heap.size + 1) (by omega) (by omega) (fun h => by have := hX _ h; omega)).trans p7) hO hj,
        p', c', cellOf (o := 0) ((setRow_other W2 W.heap.size (W.heap.size + 2) cs (by omega)).trans hq) rfl⟩
    have HM := Lib.hid mid
    clear mid HP
    by_cases hs : s = []
    · subst hs
      cases hok : okB x with
      | true =>
        have HRW := Lib.hid (readW_yes HD.out hok)
        have HOKB := Lib.hid hok
        clear hok
        go_wp2_with (first
          | (go_at_call 38; refine HO.out.mono ?_; rintro e W2 ⟨hs2, hb2, hk2, ⟨hn, _⟩ | ⟨x', s', cs, he, rfl, hO, hR2, hl2, hj⟩⟩; exact absurd hn HND.out; obtain ⟨rfl, rfl⟩ : x = x' ∧ [] = s' := (by have e := HD.out.symm.trans he; simpa using e); obtain ⟨hcs, hcell⟩ := HOS.out W2 x cs hO; obtain ⟨h6, hm, p', c', hq⟩ := HM.out W2 cs hs2 hb2 hk2 hO hR2 hj; have HST := Lib.hid (vt_graph.put hcs hcell h6 rfl); generalize W2.setRow W.heap.size cs = W3 at *; have HF := Lib.hid (HFN.out W3 x [] cs he hm.ok hm.b); have HL := Lib.hid (vt_graph.get hcs hm.q6); have HMID := Lib.hid hm; have HCS := Lib.hid (And.intro hcs hcell); simp only [List.length_nil] at hq; clear hs2 hb2 hk2 he hO hR2 hl2 hj hcs hcell h6 hm HO HM HFN)
          | (go_at_call 43; refine HF.out.mono ?_; rintro e W4 ⟨rfl, hB4⟩; have hm4 := HMID.out.below hws HOK.out HJ.out hB4; have HL4 := Lib.hid (vt_graph.get HCS.out.1 hm4.q6); have HS4 := Lib.hid (vt_graph.put HCS.out.1 HCS.out.2 hm4.q6 HCS.out.1); have hm5 := hm4.set6 hws HOK.out HJ.out; have HS5 := Lib.hid (vt_errno.put (c := #[.int .i64 0]) rfl (by simp [Value.oneCell']) hm5.q7 rfl); have HM6 := Lib.hid (hm5.set7 hws HOK.out HJ.out); clear hm4 hm5 hB4 HF hq HL HST; rw [HOKB.out])
          | (go_at_call 48; refine (gmust_ok _).mono ?_; rintro e W' ⟨rfl, rfl⟩)
          | ((with_reducible apply op_store); exact HST.out; exact rfl; exact rfl)
          | ((with_reducible apply op_store); exact HS4.out; exact rfl; exact rfl)
          | ((with_reducible apply op_store); exact HS5.out; exact rfl; exact rfl)
          | ((with_reducible apply op_load); exact HL4.out; exact rfl)
          | ((with_reducible apply op_loadG); exact HL.out; exact rfl; exact rfl))
        exact leavesG_ok HM6.out.q6 HCS.out.1 HM6.out.q7 hres rfl rfl (HM6.out.good HRW.out)
      | false =>
        have HRW := Lib.hid (readW_no HD.out hok)
        have HOKB := Lib.hid hok
        clear hok
        go_wp2_with (first
          | (go_at_call 38; refine HO.out.mono ?_; rintro e W2 ⟨hs2, hb2, hk2, ⟨hn, _⟩ | ⟨x', s', cs, he, rfl, hO, hR2, hl2, hj⟩⟩; exact absurd hn HND.out; obtain ⟨rfl, rfl⟩ : x = x' ∧ [] = s' := (by have e := HD.out.symm.trans he; simpa using e); obtain ⟨hcs, hcell⟩ := HOS.out W2 x cs hO; obtain ⟨h6, hm, p', c', hq⟩ := HM.out W2 cs hs2 hb2 hk2 hO hR2 hj; have HST := Lib.hid (vt_graph.put hcs hcell h6 rfl); generalize W2.setRow W.heap.size cs = W3 at *; have HF := Lib.hid (HFN.out W3 x [] cs he hm.ok hm.b); have HL := Lib.hid (vt_graph.get hcs hm.q6); have HMID := Lib.hid hm; have HCS := Lib.hid (And.intro hcs hcell); simp only [List.length_nil] at hq; clear hs2 hb2 hk2 he hO hR2 hl2 hj hcs hcell h6 hm HO HM HFN)
          | (go_at_call 43; refine HF.out.mono ?_; rintro e W4 ⟨rfl, hB4⟩; have HM4 := Lib.hid (HMID.out.below hws HOK.out HJ.out hB4); clear hB4 HF hq HL HST; rw [HOKB.out])
          | (go_at_call 48; refine (gmust_bad _).mono ?_; rintro e W' ⟨rfl, rfl⟩)
          | ((with_reducible apply op_store); exact HST.out; exact rfl; exact rfl)
          | ((with_reducible apply op_loadG); exact HL.out; exact rfl; exact rfl))
        exact leavesG_bad HM4.out.q6 HCS.out.1 HM4.out.q7 (by omega) hres rfl rfl fun W5 hT => HM4.out.bad hws hT HRW.out (by first | exact HND.out | exact fun h => h)
    · have HRW := Lib.hid (readW_left (ok := okB) HD.out hs)
      have hls : decide (((s.length : Int)) = 0) = false := by
        have : s.length ≠ 0 := fun h => hs (List.length_eq_zero_iff.1 h)
        simp only [decide_eq_false_iff_not]; omega
      have HS0 := Lib.hid hs
      clear hs
      go_wp2_with (first
        | (go_at_call 38; refine HO.out.mono ?_; rintro e W2 ⟨hs2, hb2, hk2, ⟨hn, _⟩ | ⟨x', s', cs, he, rfl, hO, hR2, hl2, hj⟩⟩; exact absurd hn HND.out; obtain ⟨rfl, rfl⟩ : x = x' ∧ s = s' := (by have e := HD.out.symm.trans he; simpa using e); obtain ⟨hcs, hcell⟩ := HOS.out W2 x cs hO; obtain ⟨h6, hm, p', c', hq⟩ := HM.out W2 cs hs2 hb2 hk2 hO hR2 hj; have HST := Lib.hid (vt_graph.put hcs hcell h6 rfl); generalize W2.setRow W.heap.size cs = W3 at *; have HMID := Lib.hid hm; have HCS := Lib.hid (And.intro hcs hcell); clear hs2 hb2 hk2 he hO hR2 hl2 hj hcs hcell h6 hm HO HM HFN)
        | (go_at_call 48; refine (gmust_bad _).mono ?_; rintro e W' ⟨rfl, rfl⟩)
        | ((with_reducible apply op_store); exact HST.out; exact rfl; exact rfl))
      exact leavesG_bad HMID.out.q6 HCS.out.1 HMID.out.q7 (by omega) hres rfl rfl fun W5 hT => HMID.out.bad hws hT HRW.out (by first | exact HND.out | exact fun h => h)
end Go.Proofs.YthdfedfholmbmaaDoor

namespace Go.Proofs.YthdfedfholmbmaaDoor
open Go.RowKit
theorem leavesV_bad {fn : Func} {tmps : Array Value} {R : Ending → World → Prop} {W2 : World} {z : Array Value} {n : Int} {B6 B7 : Nat} (h6 : W2.heap[B6]? = some (.cells z 41 (0, 0))) (hz : z.size = 6) (h7 : W2.heap[B7]? = some (.cells #[.int .i64 n] 26 (0, 0))) (hne : B6 ≠ B7)
    (hres : fn.results = #[.cell 6 41, .cell 7 26]) (t6 : tmps.getD 6 undef = .pointer (some ⟨B6, 0, none⟩)) (t7 : tmps.getD 7 undef = .pointer (some ⟨B7, 0, none⟩))
    (hR : ∀ W3, Touch (fun x => x = B6 ∨ x = B7) W2 W3 → R (.returned (.tuple #[.agg #[.int .i64 0, .bool false, .int .i64 0, .string ⟨#[]⟩, .slice none 0 0, .slice none 0 0], .int .i64 290])) W3) :
    Leaves Tryd.prog fn tmps R [{ target := .fn (.func 57) #[.pointer (some ⟨B6, 0, none⟩), .pointer (some ⟨B7, 0, none⟩)], args := #[] }] (.panicking [{ v := badV, recovered := false }]) W2 := by
  refine leaves_cons (f := 57) (args := #[.pointer (some ⟨B6, 0, none⟩), .pointer (some ⟨B7, 0, none⟩)]) (by simp) (enters_plain Tryd.func57 rfl rfl _ _) ((caughtV h6 hz h7 hne).mono ?_)
  rintro e u' w' ⟨rfl, rfl, g1, g2, gT⟩
  exact ⟨_, results_cells2 hres _ _ ⟨B6, 0, none⟩ ⟨B7, 0, none⟩ (.agg #[.int .i64 0, .bool false, .int .i64 0, .string ⟨#[]⟩, .slice none 0 0, .slice none 0 0]) (.int .i64 290) t6 t7 (vt_val.get rfl g1) (vt_errno.get rfl g2), hR _ gT⟩
theorem leavesV_ok {fn : Func} {tmps : Array Value} {R : Ending → World → Prop} {W2 : World} {z : Array Value} {B6 B7 : Nat} (h6 : W2.heap[B6]? = some (.cells z 41 (0, 0))) (hz : z.size = 6) (h7 : W2.heap[B7]? = some (.cells #[.int .i64 0] 26 (0, 0)))
    (hres : fn.results = #[.cell 6 41, .cell 7 26]) (t6 : tmps.getD 6 undef = .pointer (some ⟨B6, 0, none⟩)) (t7 : tmps.getD 7 undef = .pointer (some ⟨B7, 0, none⟩))
    (hR : R (.returned (.tuple #[.agg z, .int .i64 0])) W2) :
    Leaves Tryd.prog fn tmps R [{ target := .fn (.func 57) #[.pointer (some ⟨B6, 0, none⟩), .pointer (some ⟨B7, 0, none⟩)], args := #[] }] .returning W2 := by
  refine leaves_cons (f := 57) (args := #[.pointer (some ⟨B6, 0, none⟩), .pointer (some ⟨B7, 0, none⟩)]) (by simp) (enters_plain Tryd.func57 rfl rfl _ _) ((idleV _ _ _).mono ?_)
  rintro e u' w' ⟨rfl, rfl, rfl⟩
  exact ⟨_, results_cells2 hres _ _ ⟨B6, 0, none⟩ ⟨B7, 0, none⟩ (.agg z) (.int .i64 0) t6 t7 (vt_val.get hz h6) (vt_errno.get rfl h7), hR⟩
set_option maxRecDepth 100000 in
set_option maxHeartbeats 16000000 in
theorem readV_any {α : Type} (d : Dec α) (okB : α → Bool) {w W : World} {p : Option Addr} {c : Nat} {bs : List UInt8} (hb : Below w.heap.size w W) (hrd : RdB w (.slice p bs.length c) bs) (hlb : bs.length ≤ 1000000) (X : Nat → Prop) (hX : ∀ b, X b → b < W.heap.size)
    (Jn : World → Prop) (hJn : ∀ W1 W2 : World, Jn W1 → (∀ b, b < W.heap.size → W2.heap[b]? = W1.heap[b]?) → Jn W2)
    (OK : World → α → Array Value → Prop) (hOKs : ∀ W1 x cs, OK W1 x cs → cs.size = 6 ∧ ∀ u ∈ cs.toList, u.oneCell' = true)
    (hOKk : ∀ (W1 W2 : World) x cs, OK W1 x cs → (∀ b, W.heap.size + 3 ≤ b → b < W1.heap.size → W2.heap[b]? = W1.heap[b]?) → OK W2 x cs)
    (one : ∀ W1 : World, W1.heap.size = W.heap.size + 3 → RSt 73 w W1 (W.heap.size + 2) bs → (∀ b, b < W.heap.size → W1.heap[b]? = W.heap[b]?) → Calls Tryd.prog 28 #[.pointer (some ⟨W.heap.size + 2, 0, none⟩)] W1 fun e W2 =>
      W1.heap.size ≤ W2.heap.size ∧ Below w.heap.size w W2 ∧ (∀ b, b < W1.heap.size → b ≠ W.heap.size + 2 → ¬ X b → W2.heap[b]? = W1.heap[b]?) ∧ ((d bs = none ∧ e = given ∧ ∀ b, X b → W2.heap[b]? = W1.heap[b]?) ∨ ∃ x s cs, d bs = some (x, s) ∧ e = .returned (.agg cs) ∧ OK W2 x cs ∧ RSt 73 w W2 (W.heap.size + 2) s ∧ s.length ≤ bs.length ∧ Jn W2))
    (fine : ∀ W1 x s cs, d bs = some (x, s) → OK W1 x cs → Below w.heap.size w W1 → Calls Tryd.prog 30 #[.agg cs] W1 fun e W2 => e = .returned (.bool (okB x)) ∧ Below W1.heap.size W1 W2) :
    Calls Tryd.prog 27 #[.slice p bs.length c, .func (.func 28) #[] #[], .func (.func 30) #[] #[]] W (ReadPost w W X .agg #[.int .i64 0, .bool false, .int .i64 0, .string ⟨#[]⟩, .slice none 0 0, .slice none 0 0] OK Jn (d bs = none) (readW d okB bs)) := by
  have zl : (bs.length : Int) ≤ 1000000 := by omega
  have hws := hb.size
  have hb1 : Below W.heap.size W (((W.alloc (.cells #[.int .i64 0, .bool false, .int .i64 0, .string ⟨#[]⟩, .slice none 0 0, .slice none 0 0] 41)).alloc (.cells #[.int .i64 0] 26)).alloc (.cells #[.slice p bs.length c] 73)) := ((below_new _).alloc (by simp) _).alloc (by simp; omega) _
  have p6 : (((W.alloc (.cells #[.int .i64 0, .bool false, .int .i64 0, .string ⟨#[]⟩, .slice none 0 0, .slice none 0 0] 41)).alloc (.cells #[.int .i64 0] 26)).alloc (.cells #[.slice p bs.length c] 73)).heap[W.heap.size]? = some (.cells #[.int .i64 0, .bool false, .int .i64 0, .string ⟨#[]⟩, .slice none 0 0, .slice none 0 0] 41 (0, 0)) := by
    simp only [heap_get_alloc, World.size_alloc]; rw [if_neg (by omega), if_neg (by omega), if_pos trivial]
  have p7 : (((W.alloc (.cells #[.int .i64 0, .bool false, .int .i64 0, .string ⟨#[]⟩, .slice none 0 0, .slice none 0 0] 41)).alloc (.cells #[.int .i64 0] 26)).alloc (.cells #[.slice p bs.length c] 73)).heap[W.heap.size + 1]? = some (.cells #[.int .i64 0] 26 (0, 0)) := by
    simp only [heap_get_alloc, World.size_alloc]; rw [if_neg (by omega), if_pos trivial]
  have p8 : (((W.alloc (.cells #[.int .i64 0, .bool false, .int .i64 0, .string ⟨#[]⟩, .slice none 0 0, .slice none 0 0] 41)).alloc (.cells #[.int .i64 0] 26)).alloc (.cells #[.slice p bs.length c] 73)).heap[W.heap.size + 2]? = some (.cells #[.slice p bs.length c] 73 (0, 0)) := by
    have e : W.heap.size + 2 = W.heap.size + 1 + 1 := rfl
    rw [e]; simp only [heap_get_alloc, World.size_alloc]; rw [if_pos trivial]
  have hsz : (((W.alloc (.cells #[.int .i64 0, .bool false, .int .i64 0, .string ⟨#[]⟩, .slice none 0 0, .slice none 0 0] 41)).alloc (.cells #[.int .i64 0] 26)).alloc (.cells #[.slice p bs.length c] 73)).heap.size = W.heap.size + 3 := by simp
  have hone := one _ hsz ⟨below_trans hb hb1, by omega, p, c, p8, hrd⟩ (fun b hbb => hb1.block b hbb)
  have HO := Lib.hid hone
  have HP := Lib.hid (And.intro hb1 (And.intro p6 (And.intro p7 hsz)))
  have HFN := Lib.hid fine
  have HOS := Lib.hid hOKs
  have HOK := Lib.hid hOKk
  have HJ := Lib.hid hJn
  have HB0 := Lib.hid hb
  clear hone hb1 p6 p7 p8 fine hOKs hOKk hJn one hrd hb
  have back : ∀ W2 W3 : World, (((W.alloc (.cells #[.int .i64 0, .bool false, .int .i64 0, .string ⟨#[]⟩, .slice none 0 0, .slice none 0 0] 41)).alloc (.cells #[.int .i64 0] 26)).alloc (.cells #[.slice p bs.length c] 73)).heap.size ≤ W2.heap.size → (∀ b, b < (((W.alloc (.cells #[.int .i64 0, .bool false, .int .i64 0, .string ⟨#[]⟩, .slice none 0 0, .slice none 0 0] 41)).alloc (.cells #[.int .i64 0] 26)).alloc (.cells #[.slice p bs.length c] 73)).heap.size → b ≠ W.heap.size + 2 → ¬ X b → W2.heap[b]? = (((W.alloc (.cells #[.int .i64 0, .bool false, .int .i64 0, .string ⟨#[]⟩, .slice none 0 0, .slice none 0 0] 41)).alloc (.cells #[.int .i64 0] 26)).alloc (.cells #[.slice p bs.length c] 73)).heap[b]?) →
      W2.heap.size ≤ W3.heap.size → (∀ b, b < W2.heap.size → b ≠ W.heap.size → b ≠ W.heap.size + 1 → W3.heap[b]? = W2.heap[b]?) → W.heap.size ≤ W3.heap.size ∧ ∀ b, b < W.heap.size → ¬ X b → W3.heap[b]? = W.heap[b]? := by
    intro W2 W3 h1 h2 h3 h4
    have hs := HP.out.2.2.2
    exact ⟨by omega, fun b hb1 hbx => (h4 b (by omega) (by omega) (by omega)).trans ((h2 b (by omega) (by omega) hbx).trans (HP.out.1.block b hb1))⟩
  have HBK := Lib.hid back
  clear back
  refine calls_of_wp_defers Tryd.func27 rfl ?_
  simp only [Tryd.ntmps27, List.size_toArray, List.length_cons, List.length_nil, Nat.reduceAdd, Nat.reduceSub, Array.replicate_succ, Array.replicate_zero, List.push_toArray, List.append_toArray, List.nil_append, List.cons_append]
  have hres : Tryd.f27.results = #[.cell 6 41, .cell 7 26] := rfl
  cases hd : d bs with
  | none =>
    have HRW := Lib.hid (readW_none (ok := okB) hd)
    have HD := Lib.hid hd
    clear hd
    go_wp2_with (go_at_call 28; refine HO.out.mono ?_; rintro e W2 ⟨hs2, hb2, hk2, ⟨_, rfl, hx2⟩ | ⟨x, s, cs, he, _⟩⟩; rotate_left; exact absurd he (by rw [HD.out]; simp); have H2 := Lib.hid (And.intro hs2 (And.intro hb2 (And.intro hk2 hx2))); clear hs2 hb2 hk2 hx2)
    obtain ⟨hs2, hb2, hk2, hx2⟩ := H2.out
    obtain ⟨hb1, p6, p7, hsz⟩ := HP.out
    have hs3 : W.heap.size + 3 ≤ W2.heap.size := by omega
    refine leavesV_bad (n := 0) ((hk2 _ (by omega) (by omega) (fun h => by have := hX _ h; omega)).trans p6) rfl ((hk2 _ (by omega) (by omega) (fun h => by have := hX _ h; omega)).trans p7) (by omega) hres rfl rfl fun W3 hT => ?_
    obtain ⟨g1, g2⟩ := HBK.out W2 W3 hs2 hk2 hT.size (fun b hb h6 h7 => hT.block b hb (fun h => h.elim h6 h7))
    refine ⟨hT.below hb2 (fun b hb he => by omega) (by omega), g1, g2, ?_⟩
    rw [HRW.out]
    exact ⟨rfl, fun _ b hb => (hT.block b (by have := hX b hb; omega) (by have := hX b hb; omega)).trans ((hx2 b hb).trans (hb1.block b (hX b hb)))⟩
  | some pr =>
    obtain ⟨x, s⟩ := pr
    have HD := Lib.hid hd
    clear hd
    have hND : ¬ (d bs = none) := by rw [HD.out]; simp
    have HND := Lib.hid hND
    clear hND
    have mid : ∀ W2 cs, (((W.alloc (.cells #[.int .i64 0, .bool false, .int .i64 0, .string ⟨#[]⟩, .slice none 0 0, .slice none 0 0] 41)).alloc (.cells #[.int .i64 0] 26)).alloc (.cells #[.slice p bs.length c] 73)).heap.size ≤ W2.heap.size → Below w.heap.size w W2 → (∀ b, b < (((W.alloc (.cells #[.int .i64 0, .bool false, .int .i64 0, .string ⟨#[]⟩, .slice none 0 0, .slice none 0 0] 41)).alloc (.cells #[.int .i64 0] 26)).alloc (.cells #[.slice p bs.length c] 73)).heap.size → b ≠ W.heap.size + 2 → ¬ X b → W2.heap[b]? = (((W.alloc (.cells #[.int .i64 0, .bool false, .int .i64 0, .string ⟨#[]⟩, .slice none 0 0, .slice none 0 0] 41)).alloc (.cells #[.int .i64 0] 26)).alloc (.cells #[.slice p bs.length c] 73)).heap[b]?) →
        OK W2 x cs → RSt 73 w W2 (W.heap.size + 2) s → Jn W2 → W2.heap[W.heap.size]? = some (.cells #[.int .i64 0, .bool false, .int .i64 0, .string ⟨#[]⟩, .slice none 0 0, .slice none 0 0] 41 (0, 0)) ∧ RdMid 41 w W X OK Jn x cs (W2.setRow W.heap.size cs) ∧ ∃ p' c', (W2.setRow W.heap.size cs).cell? ⟨W.heap.size + 2, 0, none⟩ = some (.slice p' s.length c') := by
      intro W2 cs hs2 hb2 hk2 hO hR hj
      obtain ⟨hb1, p6, p7, hsz⟩ := HP.out
      have h6 := (hk2 W.heap.size (by omega) (by omega) (fun h => by have := hX _ h; omega)).trans p6
      obtain ⟨p', c', hq, _⟩ := hR.box
      exact ⟨h6, RdMid.first hws hX HOK.out HJ.out (by omega) hb2 (fun b hb hx => (hk2 b (by omega) (by omega) hx).trans (hb1.block b hb)) h6 ((hk2 (W.heap.size + 1) (by omega) (by omega) (fun h => by have := hX _ h; omega)).trans p7) hO hj,
        p', c', cellOf (o := 0) ((setRow_other W2 W.heap.size (W.heap.size + 2) cs (by omega)).trans hq) rfl⟩
    have HM := Lib.hid mid
    clear mid HP
    by_cases hs : s = []
    · subst hs
      cases hok : okB x with
      | true =>
        have HRW := Lib.hid (readW_yes HD.out hok)
        have HOKB := Lib.hid hok
        clear hok
        go_wp2_with (first
          | (go_at_call 28; refine HO.out.mono ?_; rintro e W2 ⟨hs2, hb2, hk2, ⟨hn, _⟩ | ⟨x', s', cs, he, rfl, hO, hR2, hl2, hj⟩⟩; exact absurd hn HND.out; obtain ⟨rfl, rfl⟩ : x = x' ∧ [] = s' := (by have e := HD.out.symm.trans he; simpa using e); obtain ⟨hcs, hcell⟩ := HOS.out W2 x cs hO; obtain ⟨h6, hm, p', c', hq⟩ := HM.out W2 cs hs2 hb2 hk2 hO hR2 hj; have HST := Lib.hid (vt_val.put hcs hcell h6 rfl); generalize W2.setRow W.heap.size cs = W3 at *; have HF := Lib.hid (HFN.out W3 x [] cs he hm.ok hm.b); have HL := Lib.hid (vt_val.get hcs hm.q6); have HMID := Lib.hid hm; have HCS := Lib.hid (And.intro hcs hcell); simp only [List.length_nil] at hq; clear hs2 hb2 hk2 he hO hR2 hl2 hj hcs hcell h6 hm HO HM HFN)
          | (go_at_call 30; refine HF.out.mono ?_; rintro e W4 ⟨rfl, hB4⟩; have hm4 := HMID.out.below hws HOK.out HJ.out hB4; have HL4 := Lib.hid (vt_val.get HCS.out.1 hm4.q6); have HS4 := Lib.hid (vt_val.put HCS.out.1 HCS.out.2 hm4.q6 HCS.out.1); have hm5 := hm4.set6 hws HOK.out HJ.out; have HS5 := Lib.hid (vt_errno.put (c := #[.int .i64 0]) rfl (by simp [Value.oneCell']) hm5.q7 rfl); have HM6 := Lib.hid (hm5.set7 hws HOK.out HJ.out); clear hm4 hm5 hB4 HF hq HL HST; rw [HOKB.out])
          | (go_at_call 48; refine (gmust_ok _).mono ?_; rintro e W' ⟨rfl, rfl⟩)
          | ((with_reducible apply op_store); exact HST.out; exact rfl; exact rfl)
          | ((with_reducible apply op_store); exact HS4.out; exact rfl; exact rfl)
          | ((with_reducible apply op_store); exact HS5.out; exact rfl; exact rfl)
          | ((with_reducible apply op_load); exact HL4.out; exact rfl)
          | ((with_reducible apply op_loadG); exact HL.out; exact rfl; exact rfl))
        exact leavesV_ok HM6.out.q6 HCS.out.1 HM6.out.q7 hres rfl rfl (HM6.out.good HRW.out)
      | false =>
        have HRW := Lib.hid (readW_no HD.out hok)
        have HOKB := Lib.hid hok
        clear hok
        go_wp2_with (first
          | (go_at_call 28; refine HO.out.mono ?_; rintro e W2 ⟨hs2, hb2, hk2, ⟨hn, _⟩ | ⟨x', s', cs, he, rfl, hO, hR2, hl2, hj⟩⟩; exact absurd hn HND.out; obtain ⟨rfl, rfl⟩ : x = x' ∧ [] = s' := (by have e := HD.out.symm.trans he; simpa using e); obtain ⟨hcs, hcell⟩ := HOS.out W2 x cs hO; obtain ⟨h6, hm, p', c', hq⟩ := HM.out W2 cs hs2 hb2 hk2 hO hR2 hj; have HST := Lib.hid (vt_val.put hcs hcell h6 rfl); generalize W2.setRow W.heap.size cs = W3 at *; have HF := Lib.hid (HFN.out W3 x [] cs he hm.ok hm.b); have HL := Lib.hid (vt_val.get hcs hm.q6); have HMID := Lib.hid hm; have HCS := Lib.hid (And.intro hcs hcell); simp only [List.length_nil] at hq; clear hs2 hb2 hk2 he hO hR2 hl2 hj hcs hcell h6 hm HO HM HFN)
          | (go_at_call 30; refine HF.out.mono ?_; rintro e W4 ⟨rfl, hB4⟩; have HM4 := Lib.hid (HMID.out.below hws HOK.out HJ.out hB4); clear hB4 HF hq HL HST; rw [HOKB.out])
          | (go_at_call 48; refine (gmust_bad _).mono ?_; rintro e W' ⟨rfl, rfl⟩)
          | ((with_reducible apply op_store); exact HST.out; exact rfl; exact rfl)
          | ((with_reducible apply op_loadG); exact HL.out; exact rfl; exact rfl))
        exact leavesV_bad HM4.out.q6 HCS.out.1 HM4.out.q7 (by omega) hres rfl rfl fun W5 hT => HM4.out.bad hws hT HRW.out (by first | exact HND.out | exact fun h => h)
    · have HRW := Lib.hid (readW_left (ok := okB) HD.out hs)
      have hls : decide (((s.length : Int)) = 0) = false := by
        have : s.length ≠ 0 := fun h => hs (List.length_eq_zero_iff.1 h)
        simp only [decide_eq_false_iff_not]; omega
      have HS0 := Lib.hid hs
      clear hs
      go_wp2_with (first
        | (go_at_call 28; refine HO.out.mono ?_; rintro e W2 ⟨hs2, hb2, hk2, ⟨hn, _⟩ | ⟨x', s', cs, he, rfl, hO, hR2, hl2, hj⟩⟩; exact absurd hn HND.out; obtain ⟨rfl, rfl⟩ : x = x' ∧ s = s' := (by have e := HD.out.symm.trans he; simpa using e); obtain ⟨hcs, hcell⟩ := HOS.out W2 x cs hO; obtain ⟨h6, hm, p', c', hq⟩ := HM.out W2 cs hs2 hb2 hk2 hO hR2 hj; have HST := Lib.hid (vt_val.put hcs hcell h6 rfl); generalize W2.setRow W.heap.size cs = W3 at *; have HMID := Lib.hid hm; have HCS := Lib.hid (And.intro hcs hcell); clear hs2 hb2 hk2 he hO hR2 hl2 hj hcs hcell h6 hm HO HM HFN)
        | (go_at_call 48; refine (gmust_bad _).mono ?_; rintro e W' ⟨rfl, rfl⟩)
        | ((with_reducible apply op_store); exact HST.out; exact rfl; exact rfl))
      exact leavesV_bad HMID.out.q6 HCS.out.1 HMID.out.q7 (by omega) hres rfl rfl fun W5 hT => HMID.out.bad hws hT HRW.out (by first | exact HND.out | exact fun h => h)
end Go.Proofs.YthdfedfholmbmaaDoor

namespace Go.Proofs.YthdfedfholmbmaaDoor
open Go.RowKit
theorem leavesN_bad {fn : Func} {tmps : Array Value} {R : Ending → World → Prop} {W2 : World} {z : Array Value} {n : Int} {B6 B7 : Nat} (h6 : W2.heap[B6]? = some (.cells z 22 (0, 0))) (hz : z.size = 1) (h7 : W2.heap[B7]? = some (.cells #[.int .i64 n] 26 (0, 0))) (hne : B6 ≠ B7)
    (hres : fn.results = #[.cell 6 22, .cell 7 26]) (t6 : tmps.getD 6 undef = .pointer (some ⟨B6, 0, none⟩)) (t7 : tmps.getD 7 undef = .pointer (some ⟨B7, 0, none⟩))
    (hR : ∀ W3, Touch (fun x => x = B6 ∨ x = B7) W2 W3 → R (.returned (.tuple #[mk1 #[.int .u64 0], .int .i64 290])) W3) :
    Leaves Tryd.prog fn tmps R [{ target := .fn (.func 47) #[.pointer (some ⟨B6, 0, none⟩), .pointer (some ⟨B7, 0, none⟩)], args := #[] }] (.panicking [{ v := badV, recovered := false }]) W2 := by
  refine leaves_cons (f := 47) (args := #[.pointer (some ⟨B6, 0, none⟩), .pointer (some ⟨B7, 0, none⟩)]) (by simp) (enters_plain Tryd.func47 rfl rfl _ _) ((caughtN h6 hz h7 hne).mono ?_)
  rintro e u' w' ⟨rfl, rfl, g1, g2, gT⟩
  exact ⟨_, results_cells2 hres _ _ ⟨B6, 0, none⟩ ⟨B7, 0, none⟩ (mk1 #[.int .u64 0]) (.int .i64 290) t6 t7 (vt_u64.get rfl g1) (vt_errno.get rfl g2), hR _ gT⟩
theorem leavesN_ok {fn : Func} {tmps : Array Value} {R : Ending → World → Prop} {W2 : World} {z : Array Value} {B6 B7 : Nat} (h6 : W2.heap[B6]? = some (.cells z 22 (0, 0))) (hz : z.size = 1) (h7 : W2.heap[B7]? = some (.cells #[.int .i64 0] 26 (0, 0)))
    (hres : fn.results = #[.cell 6 22, .cell 7 26]) (t6 : tmps.getD 6 undef = .pointer (some ⟨B6, 0, none⟩)) (t7 : tmps.getD 7 undef = .pointer (some ⟨B7, 0, none⟩))
    (hR : R (.returned (.tuple #[mk1 z, .int .i64 0])) W2) :
    Leaves Tryd.prog fn tmps R [{ target := .fn (.func 47) #[.pointer (some ⟨B6, 0, none⟩), .pointer (some ⟨B7, 0, none⟩)], args := #[] }] .returning W2 := by
  refine leaves_cons (f := 47) (args := #[.pointer (some ⟨B6, 0, none⟩), .pointer (some ⟨B7, 0, none⟩)]) (by simp) (enters_plain Tryd.func47 rfl rfl _ _) ((idleN _ _ _).mono ?_)
  rintro e u' w' ⟨rfl, rfl, rfl⟩
  exact ⟨_, results_cells2 hres _ _ ⟨B6, 0, none⟩ ⟨B7, 0, none⟩ (mk1 z) (.int .i64 0) t6 t7 (vt_u64.get hz h6) (vt_errno.get rfl h7), hR⟩
set_option maxRecDepth 100000 in
set_option maxHeartbeats 16000000 in
theorem readN_any {α : Type} (d : Dec α) (okB : α → Bool) {w W : World} {p : Option Addr} {c : Nat} {bs : List UInt8} {a1 a2 : Option Addr} (hb : Below w.heap.size w W) (hrd : RdB w (.slice p bs.length c) bs) (hlb : bs.length ≤ 1000000) (X : Nat → Prop) (hX : ∀ b, X b → b < W.heap.size)
    (Jn : World → Prop) (hJn : ∀ W1 W2 : World, Jn W1 → (∀ b, b < W.heap.size → W2.heap[b]? = W1.heap[b]?) → Jn W2)
    (OK : World → α → Array Value → Prop) (hOKs : ∀ W1 x cs, OK W1 x cs → cs.size = 1 ∧ ∀ u ∈ cs.toList, u.oneCell' = true)
    (hOKk : ∀ (W1 W2 : World) x cs, OK W1 x cs → (∀ b, W.heap.size + 3 ≤ b → b < W1.heap.size → W2.heap[b]? = W1.heap[b]?) → OK W2 x cs)
    (one : ∀ W1 : World, W1.heap.size = W.heap.size + 3 → RSt 73 w W1 (W.heap.size + 2) bs → (∀ b, b < W.heap.size → W1.heap[b]? = W.heap[b]?) → Calls Tryd.prog 21 #[.pointer (some ⟨W.heap.size + 2, 0, none⟩), .pointer a1, .pointer a2] W1 fun e W2 =>
      W1.heap.size ≤ W2.heap.size ∧ Below w.heap.size w W2 ∧ (∀ b, b < W1.heap.size → b ≠ W.heap.size + 2 → ¬ X b → W2.heap[b]? = W1.heap[b]?) ∧ ((d bs = none ∧ e = given ∧ ∀ b, X b → W2.heap[b]? = W1.heap[b]?) ∨ ∃ x s cs, d bs = some (x, s) ∧ e = .returned (mk1 cs) ∧ OK W2 x cs ∧ RSt 73 w W2 (W.heap.size + 2) s ∧ s.length ≤ bs.length ∧ Jn W2))
    (fine : ∀ W1 x s cs, d bs = some (x, s) → OK W1 x cs → Below w.heap.size w W1 → Calls Tryd.prog 23 #[mk1 cs] W1 fun e W2 => e = .returned (.bool (okB x)) ∧ Below W1.heap.size W1 W2) :
    Calls Tryd.prog 20 #[.slice p bs.length c, .func (.func 21) #[] #[.pointer a1, .pointer a2], .func (.func 23) #[] #[]] W (ReadPost w W X mk1 #[.int .u64 0] OK Jn (d bs = none) (readW d okB bs)) := by
  have zl : (bs.length : Int) ≤ 1000000 := by omega
  have hws := hb.size
  have hb1 : Below W.heap.size W (((W.alloc (.cells #[.int .u64 0] 22)).alloc (.cells #[.int .i64 0] 26)).alloc (.cells #[.slice p bs.length c] 73)) := ((below_new _).alloc (by simp) _).alloc (by simp; omega) _
  have p6 : (((W.alloc (.cells #[.int .u64 0] 22)).alloc (.cells #[.int .i64 0] 26)).alloc (.cells #[.slice p bs.length c] 73)).heap[W.heap.size]? = some (.cells #[.int .u64 0] 22 (0, 0)) := by
    simp only [heap_get_alloc, World.size_alloc]; rw [if_neg (by omega), if_neg (by omega), if_pos trivial]
  have p7 : (((W.alloc (.cells #[.int .u64 0] 22)).alloc (.cells #[.int .i64 0] 26)).alloc (.cells #[.slice p bs.length c] 73)).heap[W.heap.size + 1]? = some (.cells #[.int .i64 0] 26 (0, 0)) := by
    simp only [heap_get_alloc, World.size_alloc]; rw [if_neg (by omega), if_pos trivial]
  have p8 : (((W.alloc (.cells #[.int .u64 0] 22)).alloc (.cells #[.int .i64 0] 26)).alloc (.cells #[.slice p bs.length c] 73)).heap[W.heap.size + 2]? = some (.cells #[.slice p bs.length c] 73 (0, 0)) := by
    have e : W.heap.size + 2 = W.heap.size + 1 + 1 := rfl
    rw [e]; simp only [heap_get_alloc, World.size_alloc]; rw [if_pos trivial]
  have hsz : (((W.alloc (.cells #[.int .u64 0] 22)).alloc (.cells #[.int .i64 0] 26)).alloc (.cells #[.slice p bs.length c] 73)).heap.size = W.heap.size + 3 := by simp
  have hone := one _ hsz ⟨below_trans hb hb1, by omega, p, c, p8, hrd⟩ (fun b hbb => hb1.block b hbb)
  have HO := Lib.hid hone
  have HP := Lib.hid (And.intro hb1 (And.intro p6 (And.intro p7 hsz)))
  have HFN := Lib.hid fine
  have HOS := Lib.hid hOKs
  have HOK := Lib.hid hOKk
  have HJ := Lib.hid hJn
  have HB0 := Lib.hid hb
  clear hone hb1 p6 p7 p8 fine hOKs hOKk hJn one hrd hb
  have back : ∀ W2 W3 : World, (((W.alloc (.cells #[.int .u64 0] 22)).alloc (.cells #[.int .i64 0] 26)).alloc (.cells #[.slice p bs.length c] 73)).heap.size ≤ W2.heap.size → (∀ b, b < (((W.alloc (.cells #[.int .u64 0] 22)).alloc (.cells #[.int .i64 0] 26)).alloc (.cells #[.slice p bs.length c] 73)).heap.size → b ≠ W.heap.size + 2 → ¬ X b → W2.heap[b]? = (((W.alloc (.cells #[.int .u64 0] 22)).alloc (.cells #[.int .i64 0] 26)).alloc (.cells #[.slice p bs.length c] 73)).heap[b]?) →
      W2.heap.size ≤ W3.heap.size → (∀ b, b < W2.heap.size → b ≠ W.heap.size → b ≠ W.heap.size + 1 → W3.heap[b]? = W2.heap[b]?) → W.heap.size ≤ W3.heap.size ∧ ∀ b, b < W.heap.size → ¬ X b → W3.heap[b]? = W.heap[b]? := by
    intro W2 W3 h1 h2 h3 h4
    have hs := HP.out.2.2.2
    exact ⟨by omega, fun b hb1 hbx => (h4 b (by omega) (by omega) (by omega)).trans ((h2 b (by omega) (by omega) hbx).trans (HP.out.1.block b hb1))⟩
  have HBK := Lib.hid back
  clear back
  refine calls_of_wp_defers Tryd.func20 rfl ?_
  simp only [Tryd.ntmps20, List.size_toArray, List.length_cons, List.length_nil, Nat.reduceAdd, Nat.reduceSub, Array.replicate_succ, Array.replicate_zero, List.push_toArray, List.append_toArray, List.nil_append, List.cons_append]
  have hres : Tryd.f20.results = #[.cell 6 22, .cell 7 26] := rfl
  cases hd : d bs with
  | none =>
    have HRW := Lib.hid (readW_none (ok := okB) hd)
    have HD := Lib.hid hd
    clear hd
    go_wp2_with (go_at_call 21; refine HO.out.mono ?_; rintro e W2 ⟨hs2, hb2, hk2, ⟨_, rfl, hx2⟩ | ⟨x, s, cs, he, _⟩⟩; rotate_left; exact absurd he (by rw [HD.out]; simp); have H2 := Lib.hid (And.intro hs2 (And.intro hb2 (And.intro hk2 hx2))); clear hs2 hb2 hk2 hx2)
    obtain ⟨hs2, hb2, hk2, hx2⟩ := H2.out
    obtain ⟨hb1, p6, p7, hsz⟩ := HP.out
    have hs3 : W.heap.size + 3 ≤ W2.heap.size := by omega
    refine leavesN_bad (n := 0) ((hk2 _ (by omega) (by omega) (fun h => by have := hX _ h; omega)).trans p6) rfl ((hk2 _ (by omega) (by omega) (fun h => by have := hX _ h; omega)).trans p7) (by omega) hres rfl rfl fun W3 hT => ?_
    obtain ⟨g1, g2⟩ := HBK.out W2 W3 hs2 hk2 hT.size (fun b hb h6 h7 => hT.block b hb (fun h => h.elim h6 h7))
    refine ⟨hT.below hb2 (fun b hb he => by omega) (by omega), g1, g2, ?_⟩
    rw [HRW.out]
    exact ⟨rfl, fun _ b hb => (hT.block b (by have := hX b hb; omega) (by have := hX b hb; omega)).trans ((hx2 b hb).trans (hb1.block b (hX b hb)))⟩
  | some pr =>
    obtain ⟨x, s⟩ := pr
    have HD := Lib.hid hd
    clear hd
    have hND : ¬ (d bs = none) := by rw [HD.out]; simp
    have HND := Lib.hid hND
    clear hND
    have mid : ∀ W2 cs, (((W.alloc (.cells #[.int .u64 0] 22)).alloc (.cells #[.int .i64 0] 26)).alloc (.cells #[.slice p bs.length c] 73)).heap.size ≤ W2.heap.size → Below w.heap.size w W2 → (∀ b, b < (((W.alloc (.cells #[.int .u64 0] 22)).alloc (.cells #[.int .i64 0] 26)).alloc (.cells #[.slice p bs.length c] 73)).heap.size → b ≠ W.heap.size + 2 → ¬ X b → W2.heap[b]? = (((W.alloc (.cells #[.int .u64 0] 22)).alloc (.cells #[.int .i64 0] 26)).alloc (.cells #[.slice p bs.length c] 73)).heap[b]?) →
        OK W2 x cs → RSt 73 w W2 (W.heap.size + 2) s → Jn W2 → W2.heap[W.heap.size]? = some (.cells #[.int .u64 0] 22 (0, 0)) ∧ RdMid 22 w W X OK Jn x cs (W2.setRow W.heap.size cs) ∧ ∃ p' c', (W2.setRow W.heap.size cs).cell? ⟨W.heap.size + 2, 0, none⟩ = some (.slice p' s.length c') := by
      intro W2 cs hs2 hb2 hk2 hO hR hj
      obtain ⟨hb1, p6, p7, hsz⟩ := HP.out
      have h6 := (hk2 W.heap.size (by omega) (by omega) (fun h => by have := hX _ h; omega)).trans p6
      obtain ⟨p', c', hq, _⟩ := hR.box
      exact ⟨h6, RdMid.first hws hX HOK.out HJ.out (by omega) hb2 (fun b hb hx => (hk2 b (by omega) (by omega) hx).trans (hb1.block b hb)) h6 ((hk2 (W.heap.size + 1) (by omega) (by omega) (fun h => by have := hX _ h; omega)).trans p7) hO hj,
        p', c', cellOf (o := 0) ((setRow_other W2 W.heap.size (W.heap.size + 2) cs (by omega)).trans hq) rfl⟩
    have HM := Lib.hid mid
    clear mid HP
    by_cases hs : s = []
    · subst hs
      cases hok : okB x with
      | true =>
        have HRW := Lib.hid (readW_yes HD.out hok)
        have HOKB := Lib.hid hok
        clear hok
        go_wp2_with (first
          | (go_at_call 21; refine HO.out.mono ?_; rintro e W2 ⟨hs2, hb2, hk2, ⟨hn, _⟩ | ⟨x', s', cs, he, rfl, hO, hR2, hl2, hj⟩⟩; exact absurd hn HND.out; obtain ⟨rfl, rfl⟩ : x = x' ∧ [] = s' := (by have e := HD.out.symm.trans he; simpa using e); obtain ⟨hcs, hcell⟩ := HOS.out W2 x cs hO; obtain ⟨h6, hm, p', c', hq⟩ := HM.out W2 cs hs2 hb2 hk2 hO hR2 hj; have HST := Lib.hid (vt_u64.put hcs hcell h6 rfl); generalize W2.setRow W.heap.size cs = W3 at *; have HF := Lib.hid (HFN.out W3 x [] cs he hm.ok hm.b); have HL := Lib.hid (vt_u64.get hcs hm.q6); have HMID := Lib.hid hm; have HCS := Lib.hid (And.intro hcs hcell); simp only [List.length_nil] at hq; clear hs2 hb2 hk2 he hO hR2 hl2 hj hcs hcell h6 hm HO HM HFN)
          | (go_at_call 23; refine HF.out.mono ?_; rintro e W4 ⟨rfl, hB4⟩; have hm4 := HMID.out.below hws HOK.out HJ.out hB4; have HL4 := Lib.hid (vt_u64.get HCS.out.1 hm4.q6); have HS4 := Lib.hid (vt_u64.put HCS.out.1 HCS.out.2 hm4.q6 HCS.out.1); have hm5 := hm4.set6 hws HOK.out HJ.out; have HS5 := Lib.hid (vt_errno.put (c := #[.int .i64 0]) rfl (by simp [Value.oneCell']) hm5.q7 rfl); have HM6 := Lib.hid (hm5.set7 hws HOK.out HJ.out); clear hm4 hm5 hB4 HF hq HL HST; rw [HOKB.out])
          | (go_at_call 48; refine (gmust_ok _).mono ?_; rintro e W' ⟨rfl, rfl⟩)
          | ((with_reducible apply op_store); exact HST.out; exact rfl; exact rfl)
          | ((with_reducible apply op_store); exact HS4.out; exact rfl; exact rfl)
          | ((with_reducible apply op_store); exact HS5.out; exact rfl; exact rfl)
          | ((with_reducible apply op_load); exact HL4.out; exact rfl)
          | ((with_reducible apply op_loadG); exact HL.out; exact rfl; exact rfl))
        exact leavesN_ok HM6.out.q6 HCS.out.1 HM6.out.q7 hres rfl rfl (HM6.out.good HRW.out)
      | false =>
        have HRW := Lib.hid (readW_no HD.out hok)
        have HOKB := Lib.hid hok
        clear hok
        go_wp2_with (first
          | (go_at_call 21; refine HO.out.mono ?_; rintro e W2 ⟨hs2, hb2, hk2, ⟨hn, _⟩ | ⟨x', s', cs, he, rfl, hO, hR2, hl2, hj⟩⟩; exact absurd hn HND.out; obtain ⟨rfl, rfl⟩ : x = x' ∧ [] = s' := (by have e := HD.out.symm.trans he; simpa using e); obtain ⟨hcs, hcell⟩ := HOS.out W2 x cs hO; obtain ⟨h6, hm, p', c', hq⟩ := HM.out W2 cs hs2 hb2 hk2 hO hR2 hj; have HST := Lib.hid (vt_u64.put hcs hcell h6 rfl); generalize W2.setRow W.heap.size cs = W3 at *; have HF := Lib.hid (HFN.out W3 x [] cs he hm.ok hm.b); have HL := Lib.hid (vt_u64.get hcs hm.q6); have HMID := Lib.hid hm; have HCS := Lib.hid (And.intro hcs hcell); simp only [List.length_nil] at hq; clear hs2 hb2 hk2 he hO hR2 hl2 hj hcs hcell h6 hm HO HM HFN)
          | (go_at_call 23; refine HF.out.mono ?_; rintro e W4 ⟨rfl, hB4⟩; have HM4 := Lib.hid (HMID.out.below hws HOK.out HJ.out hB4); clear hB4 HF hq HL HST; rw [HOKB.out])
          | (go_at_call 48; refine (gmust_bad _).mono ?_; rintro e W' ⟨rfl, rfl⟩)
          | ((with_reducible apply op_store); exact HST.out; exact rfl; exact rfl)
          | ((with_reducible apply op_loadG); exact HL.out; exact rfl; exact rfl))
        exact leavesN_bad HM4.out.q6 HCS.out.1 HM4.out.q7 (by omega) hres rfl rfl fun W5 hT => HM4.out.bad hws hT HRW.out (by first | exact HND.out | exact fun h => h)
    · have HRW := Lib.hid (readW_left (ok := okB) HD.out hs)
      have hls : decide (((s.length : Int)) = 0) = false := by
        have : s.length ≠ 0 := fun h => hs (List.length_eq_zero_iff.1 h)
        simp only [decide_eq_false_iff_not]; omega
      have HS0 := Lib.hid hs
      clear hs
      go_wp2_with (first
        | (go_at_call 21; refine HO.out.mono ?_; rintro e W2 ⟨hs2, hb2, hk2, ⟨hn, _⟩ | ⟨x', s', cs, he, rfl, hO, hR2, hl2, hj⟩⟩; exact absurd hn HND.out; obtain ⟨rfl, rfl⟩ : x = x' ∧ s = s' := (by have e := HD.out.symm.trans he; simpa using e); obtain ⟨hcs, hcell⟩ := HOS.out W2 x cs hO; obtain ⟨h6, hm, p', c', hq⟩ := HM.out W2 cs hs2 hb2 hk2 hO hR2 hj; have HST := Lib.hid (vt_u64.put hcs hcell h6 rfl); generalize W2.setRow W.heap.size cs = W3 at *; have HMID := Lib.hid hm; have HCS := Lib.hid (And.intro hcs hcell); clear hs2 hb2 hk2 he hO hR2 hl2 hj hcs hcell h6 hm HO HM HFN)
        | (go_at_call 48; refine (gmust_bad _).mono ?_; rintro e W' ⟨rfl, rfl⟩)
        | ((with_reducible apply op_store); exact HST.out; exact rfl; exact rfl))
      exact leavesN_bad HMID.out.q6 HCS.out.1 HMID.out.q7 (by omega) hres rfl rfl fun W5 hT => HMID.out.bad hws hT HRW.out (by first | exact HND.out | exact fun h => h)
end Go.Proofs.YthdfedfholmbmaaDoor

namespace Go.Proofs.YthdfedfholmbmaaDoor
open Go.RowKit
theorem tot_of {α : Type} {d : Dec α} {e : α → List UInt8} {P : α → Prop} {f : Rs → α × Rs} {sz : α → Nat} {R : α → Prop} (h : RT d e P) (g : DF f e P) (s : DS f sz R) {b r : List UInt8} {x : α} (hd : d b = some (x, r)) : sz x + r.length ≤ b.length ∧ R x := by
  obtain ⟨h1, h2⟩ := h.sound _ _ _ hd
  have h3 := g x r h2
  rw [← h1] at h3
  have h4 := s.size (b, false) (by rw [h3])
  have h5 := s.rng (b, false)
  rw [h3] at h4 h5
  exact ⟨h4, h5⟩
def errR {α : Type} (o : Option α) : Int := match o with
  | some _ => 0
  | none => 290
theorem results_cell_tmp2 {P : Program} {fn : Func} {p u : Tmp} {ty : TypeId} (h : fn.results = #[.cell p ty, .tmp u]) (tmps : Array Value) (w : World) (ad : Addr) (v : Value)
    (hp : tmps.getD p undef = .pointer (some ad)) (hl : (loadVar ty ad).run P w = .ok v w) : (results fn tmps).run P w = .ok (.tuple #[v, tmps.getD u undef]) w := by
  have hp' : tmps[p]?.getD undef = .pointer (some ad) := by simpa using hp
  simp [results, h, hp', asAddr, hl]
theorem one_of {α : Type} {d : Dec α} {w W1 W2 : World} {q : Nat} {bs : List UInt8} {n : Nat} {E : World → (Nat → Prop) → α → Array Value → Prop} {K : Nat} (hE : EL E K) (hn : W1.heap.size = n + 3) (hle : ∀ l' x s, d l' = some (x, s) → s.length ≤ l'.length) {e : Ending}
    (h : Reads w W1 q (d bs) (fun x v W' => ∃ cs, v = .agg cs ∧ E W' (fun b => W1.heap.size ≤ b) x cs) e W2) : W1.heap.size ≤ W2.heap.size ∧ Below w.heap.size w W2 ∧ (∀ b, b < W1.heap.size → b ≠ q → ¬ (fun _ => False : Nat → Prop) b → W2.heap[b]? = W1.heap[b]?) ∧
      ((d bs = none ∧ e = given ∧ ∀ b, (fun _ => False : Nat → Prop) b → W2.heap[b]? = W1.heap[b]?) ∨ ∃ x s cs, d bs = some (x, s) ∧ e = .returned (.agg cs) ∧ E W2 (fun b => n + 3 ≤ b) x cs ∧ RSt 73 w W2 q s ∧ s.length ≤ bs.length ∧ True) := by
  cases hd : d bs with
  | none =>
    rw [hd] at h
    obtain ⟨t, hb, rfl⟩ := h.none
    exact ⟨t.size, hb, fun b h1 h2 _ => t.keep b h1 h2, .inl ⟨rfl, rfl, fun b hb => hb.elim⟩⟩
  | some p =>
    obtain ⟨x, s⟩ := p
    rw [hd] at h
    obtain ⟨t, hb, v, rfl, ⟨cs, rfl, how⟩, hs⟩ := h.some
    exact ⟨t.size, hb, fun b h1 h2 _ => t.keep b h1 h2, .inr ⟨x, s, cs, rfl, rfl, hE.imp (fun b _ hb => by omega) how, hs, hle _ _ _ hd, trivial⟩⟩
def Got {α : Type} (E : World → (Nat → Prop) → α → Array Value → Prop) (z : α) (w : World) (o : Option α) (e : Ending) (W' : World) : Prop :=
  ∃ cs, e = .returned (.tuple #[.agg cs, .int .i64 (errR o)]) ∧ E W' (fun b => w.heap.size ≤ b) (o.getD z) cs ∧ Below w.heap.size w W'
theorem GrOwn.rd {w : World} {P : Nat → Prop} {g : GraphD} {x : Array Value} (h : GrOwn w P g x) (ht : totG g ≤ 900000) : GrRd w g x := by
  obtain ⟨vn, vr, rfl, h1, h2⟩ := h
  unfold totG at ht
  have k1 : g.nodes.length ≤ (g.nodes.map totN).sum := len_sum totN fun n _ => totN_pos n
  have k2 : g.rels.length ≤ (g.rels.map totR).sum := len_sum totR fun n _ => totR_pos n
  obtain ⟨pn, cn, rfl, e1⟩ := h1.rd el_node (F := NRd) (by omega) fun v hv x hx => hx.rd (by have := mem_sum totN hv; omega)
  obtain ⟨pr, cr, rfl, e2⟩ := h2.rd el_rel (F := RRd) (by omega) fun v hv x hx => hx.rd (by have := mem_sum totR hv; omega)
  exact ⟨pn, cn, pr, cr, rfl, e1, e2⟩
def graphZ : GraphD := ⟨[], [], 0, 0⟩
theorem graphZ_own {W : World} {P : Nat → Prop} : GrOwn W P graphZ #[.slice none 0 0, .slice none 0 0, .int .i64 0, .int .i64 0] := ⟨_, _, rfl, GOwn.nil, GOwn.nil⟩
def val0 : V := .mk 0 false 0 [] [] []
theorem val0_own {W : World} {P : Nat → Prop} : VOwn W P val0 #[.int .i64 0, .bool false, .int .i64 0, .string ⟨#[]⟩, .slice none 0 0, .slice none 0 0] := own_flat W P 0 false 0 []
theorem ef_graph : EF GrRd 4 := by
  refine ⟨fun h g => h.below g, fun h => ?_, fun h u hu => ?_⟩
  · obtain ⟨pn, cn, pr, cr, rfl, _⟩ := h; rfl
  · obtain ⟨pn, cn, pr, cr, rfl, _⟩ := h
    simp only [List.mem_cons, List.not_mem_nil, or_false] at hu
    rcases hu with rfl | rfl | rfl | rfl <;> rfl
set_option maxRecDepth 100000 in
theorem fineG_any {w : World} (hE : Env w) {g : GraphD} {x : Array Value} (h : GrRd w g x) (ht : totG g ≤ 900000) : Calls Tryd.prog 43 #[.agg x] w fun e w' => e = .returned (.bool (okG g)) ∧ Below w.heap.size w w' := by
  have hxs := ef_graph.size h
  have hb := below_new (w := w) (.cells x 55)
  have HL := Lib.hid (st_graph.get (P := Tryd.prog) hxs (heap_alloc_new w (.cells x 55)))
  have HC := Lib.hid (check_graph (hE.b hb) (h.below hb) (by omega))
  have HB := Lib.hid hb
  clear hE hb h
  have hd : decide (errG (okG g) = 0) = okG g := by cases okG g <;> rfl
  generalize errG (okG g) = er at *
  generalize okG g = r at *
  go_enter Tryd.func43, Tryd.ntmps43
  go_wp2_with (first
    | ((with_reducible apply op_load); exact HL.out; exact rfl)
    | (go_at_call 31; refine HC.out.mono ?_; rintro e W1 ⟨rfl, hb⟩; have HB2 := Lib.hid (below_trans HB.out hb); clear hb))
  go_ret
  have e : (er == 0) = r := by rw [← hd]; rfl
  exact ⟨by show Ending.returned (.bool (er == 0)) = _; rw [e], HB2.out⟩
set_option maxRecDepth 100000 in
set_option maxHeartbeats 4000000 in
theorem readPub_G {w : World} (hE : Env w) {p : Option Addr} {c : Nat} {bs : List UInt8} (hrd : RdB w (.slice p bs.length c) bs) (hl : bs.length ≤ 900000) :
    Calls Tryd.prog 18 #[.slice p bs.length c] w (Got GrOwn graphZ w (readW rdGraph okG bs)) := by
  have hb := below_new (w := w) (.cells #[.slice none 0 0, .slice none 0 0, .int .i64 0, .int .i64 0] 55)
  have hbx := heap_alloc_new w (.cells #[.slice none 0 0, .slice none 0 0, .int .i64 0, .int .i64 0] 55)
  have hsz : (w.alloc (.cells #[.slice none 0 0, .slice none 0 0, .int .i64 0, .int .i64 0] 55)).heap.size = w.heap.size + 1 := by simp
  have hR := readG_any rdGraph okG hb hrd (by omega) (fun _ => False) (fun b h => h.elim) (fun _ => True) (fun _ _ _ _ => trivial)
    (fun W1 x cs => GrOwn W1 (fun b => (w.alloc (.cells #[.slice none 0 0, .slice none 0 0, .int .i64 0, .int .i64 0] 55)).heap.size + 3 ≤ b) x cs) (fun W1 x cs h => ⟨el_graph.size h, el_graph.ones h⟩) (fun W1 W2 x cs h hk => el_graph.keep (fun b hb hlt => hk b hb hlt) h)
    (fun W1 hs hst hk => (rgraph_any hst (by omega)).mono fun e W2 h => one_of el_graph hs (fun l' x s hd => rt_graph.le hd) h)
    (fun W1 x s cs hd how hbw => by
      have ht := (tot_of rt_graph df_graph ds_graph hd).1
      exact fineG_any (hE.b hbw) (how.rd (by omega)) (by omega))
  have HR := Lib.hid hR
  have HB := Lib.hid (And.intro hb (And.intro hbx hsz))
  clear hE hrd hb hbx hsz hR
  generalize readW rdGraph okG bs = res at *
  go_enter Tryd.func18, Tryd.ntmps18
  cases res with
  | none =>
    go_wp2_with (first
      | (go_at_call 37; refine HR.out.mono ?_; rintro e W2 ⟨hb2, hs2, hk2, rfl, _⟩
         (
          obtain ⟨hb, hbx, hsz⟩ := HB.out
          have hbx2 := (hk2 w.heap.size (by omega) (fun h => h)).trans hbx
          have Hst_graph := Lib.hid (st_graph.put (cs := #[.slice none 0 0, .slice none 0 0, .int .i64 0, .int .i64 0]) rfl (by simp [Value.oneCell']) hbx2 rfl)
          have HLD := Lib.hid (st_graph.get (P := Tryd.prog) (cs := #[.slice none 0 0, .slice none 0 0, .int .i64 0, .int .i64 0]) rfl (setRow_heap W2 w.heap.size _ #[.slice none 0 0, .slice none 0 0, .int .i64 0, .int .i64 0] _ _ hbx2))
          have HF := Lib.hid (below_row (B := w.heap.size) hb2 (Nat.le_refl _) #[.slice none 0 0, .slice none 0 0, .int .i64 0, .int .i64 0])
          clear hb hbx hsz hb2 hs2 hk2 hbx2 HR))
      | ((with_reducible apply op_store); exact Hst_graph.out; exact rfl; exact rfl))
    refine bodyPost_ret (results_cell_tmp2 rfl _ _ ⟨w.heap.size, 0, none⟩ _ rfl HLD.out) rfl ?_
    exact ⟨#[.slice none 0 0, .slice none 0 0, .int .i64 0, .int .i64 0], rfl, graphZ_own, HF.out⟩
  | some x =>
    go_wp2_with (first
      | (go_at_call 37; refine HR.out.mono ?_; rintro e W2 ⟨hb2, hs2, hk2, cs, rfl, how, _⟩
         (
          obtain ⟨hb, hbx, hsz⟩ := HB.out
          have hbx2 := (hk2 w.heap.size (by omega) (fun h => h)).trans hbx
          have hcs := el_graph.size how
          have Hst_graph := Lib.hid (st_graph.put hcs (el_graph.ones how) hbx2 rfl)
          have HLD := Lib.hid (st_graph.get (P := Tryd.prog) hcs (setRow_heap W2 w.heap.size _ cs _ _ hbx2))
          have hown : GrOwn (W2.setRow w.heap.size cs) (fun b => w.heap.size ≤ b) x cs := el_graph.imp (fun b _ hb => by omega) (el_graph.keep (w' := W2.setRow w.heap.size cs) (fun b hb hlt => setRow_other W2 _ b _ (by omega)) how)
          have HF := Lib.hid (And.intro hown (below_row (B := w.heap.size) hb2 (Nat.le_refl _) cs))
          clear hb hbx hsz hb2 hs2 hk2 hbx2 HR how hcs hown))
      | ((with_reducible apply op_store); exact Hst_graph.out; exact rfl; exact rfl))
    refine bodyPost_ret (results_cell_tmp2 rfl _ _ ⟨w.heap.size, 0, none⟩ _ rfl HLD.out) rfl ?_
    exact ⟨cs, rfl, HF.out.1, HF.out.2⟩
set_option maxRecDepth 100000 in
theorem fineV_any {w : World} (hE : Env w) {g : V} {x : Array Value} (h : VRd w g x) (ht : totV g ≤ 900000) : Calls Tryd.prog 30 #[.agg x] w fun e w' => e = .returned (.bool (okV g)) ∧ Below w.heap.size w w' := by
  have hxs := ef_val.size h
  have hb := below_new (w := w) (.cells x 41)
  have HL := Lib.hid (st_val.get (P := Tryd.prog) hxs (heap_alloc_new w (.cells x 41)))
  have HC := Lib.hid (check_ok (hE.b hb) (h.below hb) (by omega))
  have HB := Lib.hid hb
  clear hE hb h
  have hd : decide (checkV Lib.validD g = 0) = okV g := by rfl
  generalize checkV Lib.validD g = er at *
  generalize okV g = r at *
  go_enter Tryd.func30, Tryd.ntmps30
  go_wp2_with (first
    | ((with_reducible apply op_load); exact HL.out; exact rfl)
    | (go_at_call 25; refine HC.out.mono ?_; rintro e W1 ⟨rfl, hb⟩; have HB2 := Lib.hid (below_trans HB.out hb); clear hb))
  go_ret
  have e : (er == 0) = r := by rw [← hd]; rfl
  exact ⟨by show Ending.returned (.bool (er == 0)) = _; rw [e], HB2.out⟩
set_option maxRecDepth 100000 in
set_option maxHeartbeats 4000000 in
theorem readPub_V {w : World} (hE : Env w) {p : Option Addr} {c : Nat} {bs : List UInt8} (hrd : RdB w (.slice p bs.length c) bs) (hl : bs.length ≤ 900000) :
    Calls Tryd.prog 14 #[.slice p bs.length c] w (Got VOwn val0 w (readW (rdVal 64) okV bs)) := by
  have hb := below_new (w := w) (.cells #[.int .i64 0, .bool false, .int .i64 0, .string ⟨#[]⟩, .slice none 0 0, .slice none 0 0] 41)
  have hbx := heap_alloc_new w (.cells #[.int .i64 0, .bool false, .int .i64 0, .string ⟨#[]⟩, .slice none 0 0, .slice none 0 0] 41)
  have hsz : (w.alloc (.cells #[.int .i64 0, .bool false, .int .i64 0, .string ⟨#[]⟩, .slice none 0 0, .slice none 0 0] 41)).heap.size = w.heap.size + 1 := by simp
  have hR := readV_any (rdVal 64) okV hb hrd (by omega) (fun _ => False) (fun b h => h.elim) (fun _ => True) (fun _ _ _ _ => trivial)
    (fun W1 x cs => VOwn W1 (fun b => (w.alloc (.cells #[.int .i64 0, .bool false, .int .i64 0, .string ⟨#[]⟩, .slice none 0 0, .slice none 0 0] 41)).heap.size + 3 ≤ b) x cs) (fun W1 x cs h => ⟨el_val.size h, el_val.ones h⟩) (fun W1 W2 x cs h hk => el_val.keep (fun b hb hlt => hk b hb hlt) h)
    (fun W1 hs hst hk => (rvalue1_any hst (by omega)).mono fun e W2 h => one_of el_val hs (fun l' x s hd => (rt_val 64).le hd) h)
    (fun W1 x s cs hd how hbw => by
      have ht := (tot_of (rt_val 64) (df_val 64) (ds_val 64) hd).1
      exact fineV_any (hE.b hbw) (how.rd (by omega)) (by omega))
  have HR := Lib.hid hR
  have HB := Lib.hid (And.intro hb (And.intro hbx hsz))
  clear hE hrd hb hbx hsz hR
  generalize readW (rdVal 64) okV bs = res at *
  go_enter Tryd.func14, Tryd.ntmps14
  cases res with
  | none =>
    go_wp2_with (first
      | (go_at_call 27; refine HR.out.mono ?_; rintro e W2 ⟨hb2, hs2, hk2, rfl, _⟩
         (
          obtain ⟨hb, hbx, hsz⟩ := HB.out
          have hbx2 := (hk2 w.heap.size (by omega) (fun h => h)).trans hbx
          have Hst_val := Lib.hid (st_val.put (cs := #[.int .i64 0, .bool false, .int .i64 0, .string ⟨#[]⟩, .slice none 0 0, .slice none 0 0]) rfl (by simp [Value.oneCell']) hbx2 rfl)
          have HLD := Lib.hid (st_val.get (P := Tryd.prog) (cs := #[.int .i64 0, .bool false, .int .i64 0, .string ⟨#[]⟩, .slice none 0 0, .slice none 0 0]) rfl (setRow_heap W2 w.heap.size _ #[.int .i64 0, .bool false, .int .i64 0, .string ⟨#[]⟩, .slice none 0 0, .slice none 0 0] _ _ hbx2))
          have HF := Lib.hid (below_row (B := w.heap.size) hb2 (Nat.le_refl _) #[.int .i64 0, .bool false, .int .i64 0, .string ⟨#[]⟩, .slice none 0 0, .slice none 0 0])
          clear hb hbx hsz hb2 hs2 hk2 hbx2 HR))
      | ((with_reducible apply op_store); exact Hst_val.out; exact rfl; exact rfl))
    refine bodyPost_ret (results_cell_tmp2 rfl _ _ ⟨w.heap.size, 0, none⟩ _ rfl HLD.out) rfl ?_
    exact ⟨#[.int .i64 0, .bool false, .int .i64 0, .string ⟨#[]⟩, .slice none 0 0, .slice none 0 0], rfl, val0_own, HF.out⟩
  | some x =>
    go_wp2_with (first
      | (go_at_call 27; refine HR.out.mono ?_; rintro e W2 ⟨hb2, hs2, hk2, cs, rfl, how, _⟩
         (
          obtain ⟨hb, hbx, hsz⟩ := HB.out
          have hbx2 := (hk2 w.heap.size (by omega) (fun h => h)).trans hbx
          have hcs := el_val.size how
          have Hst_val := Lib.hid (st_val.put hcs (el_val.ones how) hbx2 rfl)
          have HLD := Lib.hid (st_val.get (P := Tryd.prog) hcs (setRow_heap W2 w.heap.size _ cs _ _ hbx2))
          have hown : VOwn (W2.setRow w.heap.size cs) (fun b => w.heap.size ≤ b) x cs := el_val.imp (fun b _ hb => by omega) (el_val.keep (w' := W2.setRow w.heap.size cs) (fun b hb hlt => setRow_other W2 _ b _ (by omega)) how)
          have HF := Lib.hid (And.intro hown (below_row (B := w.heap.size) hb2 (Nat.le_refl _) cs))
          clear hb hbx hsz hb2 hs2 hk2 hbx2 HR how hcs hown))
      | ((with_reducible apply op_store); exact Hst_val.out; exact rfl; exact rfl))
    refine bodyPost_ret (results_cell_tmp2 rfl _ _ ⟨w.heap.size, 0, none⟩ _ rfl HLD.out) rfl ?_
    exact ⟨cs, rfl, HF.out.1, HF.out.2⟩
end Go.Proofs.YthdfedfholmbmaaDoor

namespace Go.Proofs.YthdfedfholmbmaaDoor
open Go.RowKit
theorem COwn.rd {w : World} {P : Nat → Prop} {c : ChangeD} {x : Array Value} (h : COwn w P c x) (ht : totC c ≤ 900000) : CRd w c x := by
  obtain ⟨a, b, e, h1, h2⟩ := h
  unfold totC at ht
  exact ⟨a, b, e, h1.rd (by omega), h2.rd (by omega)⟩
theorem results_tmp3 {P : Program} {fn : Func} {p q r : Tmp} (h : fn.results = #[.tmp p, .tmp q, .tmp r]) (tmps : Array Value) (w : World) : (results fn tmps).run P w = .ok (.tuple #[tmps.getD p undef, tmps.getD q undef, tmps.getD r undef]) w := by
  simp [results, h]
def gotN (bs : List UInt8) : Nat × Nat × Int := match rdN 0 0 bs with
  | some (n, r) => (n, bs.length - r.length, 0)
  | none => (0, 0, 290)
theorem readNum_call {w : World} {p : Option Addr} {c : Nat} {bs : List UInt8} (hrd : RdB w (.slice p bs.length c) bs) (hl : bs.length ≤ 900000) :
    Calls Tryd.prog 20 #[.slice p bs.length c, .func (.func 21) #[] #[.pointer (some ⟨w.heap.size, 0, none⟩), .pointer (some ⟨w.heap.size + 1, 0, none⟩)], .func (.func 23) #[] #[]]
      ((w.alloc (.cells #[.slice p bs.length c] 23)).alloc (.cells #[.int .i64 0] 3)) fun e W' => e = .returned (.tuple #[.int .u64 ((gotN bs).1 : Int), .int .i64 (gotN bs).2.2]) ∧ Below w.heap.size w W' ∧ W'.heap[w.heap.size + 1]? = some (.cells #[.int .i64 ((gotN bs).2.1 : Int)] 3 (0, 0)) := by
  have hb : Below w.heap.size w ((w.alloc (.cells #[.slice p bs.length c] 23)).alloc (.cells #[.int .i64 0] 3)) := (below_new _).alloc (by simp) _
  have hbb : ((w.alloc (.cells #[.slice p bs.length c] 23)).alloc (.cells #[.int .i64 0] 3)).heap[w.heap.size]? = some (.cells #[.slice p bs.length c] 23 (0, 0)) := belowBlk (below_new (w := w.alloc (.cells #[.slice p bs.length c] 23)) (.cells #[.int .i64 0] 3)) (by simp) (heap_alloc_new w _)
  have hnb : ((w.alloc (.cells #[.slice p bs.length c] 23)).alloc (.cells #[.int .i64 0] 3)).heap[w.heap.size + 1]? = some (.cells #[.int .i64 0] 3 (0, 0)) := by
    simp only [heap_get_alloc, World.size_alloc]; rw [if_pos trivial]
  have hsz : ((w.alloc (.cells #[.slice p bs.length c] 23)).alloc (.cells #[.int .i64 0] 3)).heap.size = w.heap.size + 2 := by simp
  generalize (w.alloc (.cells #[.slice p bs.length c] 23)).alloc (.cells #[.int .i64 0] 3) = W at *
  have hR := readN_any (W := W) (a1 := some ⟨w.heap.size, 0, none⟩) (a2 := some ⟨w.heap.size + 1, 0, none⟩) dNum (fun _ => true) hb hrd (by omega) (fun b => b = w.heap.size + 1) (fun b h => by omega)
    (fun W1 => W1.heap[w.heap.size + 1]? = some (.cells #[.int .i64 (kNum bs : Int)] 3 (0, 0))) (fun W1 W2 h hk => (hk _ (by omega)).trans h)
    (fun W1 x cs => cs = #[.int .u64 (x : Int)]) (fun W1 x cs h => by subst h; exact ⟨rfl, fun u hu => by simp only [List.mem_cons, List.not_mem_nil, or_false] at hu; subst hu; rfl⟩) (fun W1 W2 x cs h hk => h)
    (fun W1 hs hst hk => by
      have hn := rnumber1_any hst (by omega) ((hk w.heap.size (by omega)).trans hbb) ((hk (w.heap.size + 1) (by omega)).trans hnb) (by omega) (by omega) (by omega)
      refine hn.mono ?_
      rintro e W2 ⟨h1, h2, h3, h4⟩
      refine ⟨h1, h2, fun b hb1 hb2 hb3 => h3 b hb1 hb2 hb3, ?_⟩
      rcases h4 with ⟨g1, rfl, g3⟩ | ⟨n, r, g1, rfl, g3, g4⟩
      · exact .inl ⟨by unfold dNum; rw [g1]; rfl, rfl, fun b hb => by subst hb; exact g3⟩
      · exact .inr ⟨n, [], #[.int .u64 (n : Int)], by unfold dNum; rw [g1]; rfl, rfl, rfl, g3, by simp, by unfold kNum; rw [g1]; exact g4⟩)
    (fun W1 x s cs hd how hbw => by subst how; exact anyNumber _ W1)
  refine hR.mono ?_
  rintro e W' ⟨h1, h2, h3, h4⟩
  cases hd : rdN 0 0 bs with
  | none =>
    have hg : readW dNum (fun _ => true) bs = none := by unfold readW dNum; rw [hd]; rfl
    rw [hg] at h4
    obtain ⟨rfl, h5⟩ := h4
    have e1 : gotN bs = (0, 0, 290) := by unfold gotN; rw [hd]
    rw [e1]
    exact ⟨rfl, h1, (h5 (by unfold dNum; rw [hd]; rfl) _ rfl).trans hnb⟩
  | some pp =>
    obtain ⟨n, r⟩ := pp
    have hg : readW dNum (fun _ => true) bs = some n := by unfold readW dNum; rw [hd]; rfl
    rw [hg] at h4
    obtain ⟨cs, rfl, rfl, h5⟩ := h4
    have e1 : gotN bs = (n, bs.length - r.length, 0) := by unfold gotN; rw [hd]
    have e2 : kNum bs = bs.length - r.length := by unfold kNum; rw [hd]
    rw [e2] at h5
    rw [e1]
    exact ⟨rfl, h1, h5⟩
set_option maxRecDepth 100000 in
set_option maxHeartbeats 4000000 in
theorem readPub_N {w : World} {p : Option Addr} {c : Nat} {bs : List UInt8} (hrd : RdB w (.slice p bs.length c) bs) (hl : bs.length ≤ 900000) :
    Calls Tryd.prog 7 #[.slice p bs.length c] w fun e W' => e = .returned (.tuple #[.int .u64 ((gotN bs).1 : Int), .int .i64 ((gotN bs).2.1 : Int), .int .i64 (gotN bs).2.2]) ∧ Below w.heap.size w W' := by
  have HR := Lib.hid (readNum_call hrd hl)
  clear hrd
  generalize gotN bs = res at *
  go_enter Tryd.func7, Tryd.ntmps7
  go_wp2_with (go_at_call 20; refine HR.out.mono ?_; rintro e W2 ⟨rfl, hb, hn⟩; have HB := Lib.hid (And.intro hb hn); clear hb hn HR)
  obtain ⟨hb, hn⟩ := HB.out
  have hd : W2.drew.heap[w.heap.size + 1]? = some (.cells #[.int .i64 (res.2.1 : Int)] 3 (0, 0)) := hn
  refine plain_region_draws (fun W => W.cell? ⟨w.heap.size + 1, 0, none⟩ = some (.int .i64 (res.2.1 : Int))) (by kernel_rfl) (cellOf (o := 0) hd rfl) (fun hS => ?_)
  refine take 0 14 (v := .int .u64 (res.1 : Int)) rfl rfl (by kernel_rfl) (by kernel_rfl) (by kernel_rfl) rfl (fun W hW => exec_move rfl rfl) (by assumption) ?_
  simp only [Act.put, List.setIfInBounds_toArray, List.set_cons_zero, List.set_cons_succ]
  refine take 1 15 (v := .int .i64 (res.2.1 : Int)) rfl rfl (by kernel_rfl) (by kernel_rfl) (by kernel_rfl) rfl (fun W hW => exec_load rfl rfl (run_load1 (w := W) Tryd.underlying3 rfl hW)) (by assumption) ?_
  simp only [Act.put, List.setIfInBounds_toArray, List.set_cons_zero, List.set_cons_succ]
  refine take 2 16 (v := .int .i64 res.2.2) rfl rfl (by kernel_rfl) (by kernel_rfl) (by kernel_rfl) rfl (fun W hW => exec_move rfl rfl) (by assumption) ?_
  simp only [Act.put, List.setIfInBounds_toArray, List.set_cons_zero, List.set_cons_succ]
  refine take 3 2 (v := .int .u64 (res.1 : Int)) rfl rfl (by kernel_rfl) (by kernel_rfl) (by kernel_rfl) rfl (fun W hW => exec_assign rfl rfl) (by assumption) ?_
  simp only [Act.put, List.setIfInBounds_toArray, List.set_cons_zero, List.set_cons_succ]
  refine take 4 3 (v := .int .i64 (res.2.1 : Int)) rfl rfl (by kernel_rfl) (by kernel_rfl) (by kernel_rfl) rfl (fun W hW => exec_assign rfl rfl) (by assumption) ?_
  simp only [Act.put, List.setIfInBounds_toArray, List.set_cons_zero, List.set_cons_succ]
  refine take 5 4 (v := .int .i64 res.2.2) rfl rfl (by kernel_rfl) (by kernel_rfl) (by kernel_rfl) rfl (fun W hW => exec_assign rfl rfl) (by assumption) ?_
  simp only [Act.put, List.setIfInBounds_toArray, List.set_cons_zero, List.set_cons_succ]
  refine done (by kernel_rfl) ?_ _
  have HF := Lib.hid hb.drew
  clear hb hn hd hS HB
  go_wp2
  refine bodyPost_ret (results_tmp3 rfl _ _) rfl ?_
  exact ⟨rfl, HF.out⟩
end Go.Proofs.YthdfedfholmbmaaDoor

namespace Go.Proofs.YthdfedfholmbmaaDoor
open Go.RowKit
theorem num_err (n : Int) (w : World) : Calls Tryd.prog 11 #[.int .i64 n] w fun e w' => e = .returned (.int .i64 n) ∧ w = w' := by
  go_enter Tryd.func11, Tryd.ntmps11
  go_wp2
  go_ret
  exact ⟨rfl, rfl⟩
theorem eql_bytesS (a b : List UInt8) (W : World) : (binOp .eql 9 (.string (strB a)) (.string (strB b))).run Tryd.prog W = .ok (.bool (decide (a = b))) W := by
  have e : (strB a = strB b) ↔ a = b := strB_inj
  by_cases h : a = b
  · subst h; simp [go_sem]
  · rw [decide_eq_false h]
    simp [go_sem, strB_toList, h]
set_option maxRecDepth 100000 in
theorem bytes_any {w : World} {p p2 : Option Addr} {c c2 : Nat} {l m : List UInt8} (h : RdB w (.slice p l.length c) l) (h2 : RdB w (.slice p2 m.length c2) m) : Calls Tryd.prog 9 #[.slice p l.length c, .slice p2 m.length c2] w fun e w' => e = .returned (.bool (decide (l = m))) ∧ w = w' := by
  have H1 := Lib.hid (bytes_str h)
  have H2 := Lib.hid (bytes_str h2)
  have H3 := Lib.hid (eql_bytesS l m)
  clear h h2
  generalize strB l = x at *
  generalize strB m = y at *
  generalize decide (l = m) = r at *
  go_enter Tryd.func9, Tryd.ntmps9
  go_wp2_with (first
    | ((with_reducible apply op_conv); exact H1.out; exact rfl)
    | ((with_reducible apply op_conv); exact H2.out; exact rfl)
    | (refine wpList_run rfl (exec_bins rfl rfl rfl (H3.out _)) ?_))
  go_ret
  exact ⟨rfl, rfl⟩
theorem own_rdB {w : World} {P : Nat → Prop} {o : Value} {l : List UInt8} (h : OwnsP w P 5 1 o l.length (l.map byteV)) : ∃ p c, o = .slice p l.length c ∧ RdB w (.slice p l.length c) l := by
  have hc := fun g => h.1.cells (g := g)
  rcases h.1.2 with ⟨rfl, h0⟩ | ⟨g, cap, cur, rfl, _, hg, hnc, hcm, _⟩
  · have : l = [] := List.eq_nil_of_length_eq_zero h0
    subst this
    exact ⟨none, 0, rfl, none, 0, rfl, ⟨Nat.le_refl _, by simp [maxLen], fun _ => rfl⟩, fun ad had => by cases had⟩
  · refine ⟨some ⟨g, 0, none⟩, cap, rfl, some ⟨g, 0, none⟩, cap, rfl, ⟨hnc, hcm, fun h => by cases h⟩, fun ad had => ⟨fun _ => by cases had; rfl, fun i b hb => ?_⟩⟩
    cases had
    have := hc g rfl i (byteV b) (by rw [List.getElem?_map, hb]; rfl)
    rw [addr_add] at this
    simpa [byteV] using this
theorem lit_rd {W : World} {g : Nat} {cs : Array Value} {T : TypeId} {l : List UInt8} (h : W.heap[g]? = some (.cells cs T (0, 0))) (hc : cs.toList = l.map byteV) (hl : l.length ≤ 1000000) : RdB W (.slice (some ⟨g, 0, none⟩) l.length l.length) l := by
  refine ⟨some ⟨g, 0, none⟩, l.length, rfl, ⟨Nat.le_refl _, by unfold maxLen; omega, fun h => by cases h⟩, fun ad had => ⟨fun _ => by cases had; rfl, fun i b hb => ?_⟩⟩
  cases had
  refine cellOf (o := 0 + i) h ?_
  rw [Nat.zero_add, ← Array.getElem?_toList, hc, List.getElem?_map, hb]
  rfl
def wkGraph : GraphD := ⟨[⟨0, [[65]], []⟩], [], 1, 0⟩
theorem wk_okNm : okNm [65] = true := by
  unfold okNm
  have : Lib.validD [65] = true := by rfl
  rw [this]; rfl
theorem wk_okG : okG wkGraph = true := by
  unfold okG okSz okNs okRs okN wkGraph okPs
  simp [risesB, risesI, wk_okNm]
theorem wk_graphC : graphC wkGraph = [1, 0, 1, 1, 65, 0, 0, 1, 0] := by
  unfold graphC rowsC nodeC wkGraph rowsC textC toU
  simp [numB_low]
theorem wk_rng : rngG wkGraph := by
  unfold rngG rngN rngR rngP wkGraph i64T
  simp
theorem wk_tot : totG wkGraph = 3 := rfl
theorem wk_wf : wfG wkGraph := wf_of_okG wk_okG wk_rng (by rw [wk_tot]; omega)
theorem wk_readG : readW rdGraph okG [1, 0, 1, 1, 65, 0, 0, 1, 0] = some wkGraph := by
  rw [← wk_graphC]
  exact readW_of rt_graph wk_wf wk_okG
def wkChange : ChangeD := ⟨2, 5, 0, node0, rel0⟩
theorem wk_okC : ([wkChange] : List ChangeD).all okC = true := by
  unfold okC wkChange
  simp
theorem wk_changesC : changesC [wkChange] = [1, 2, 10] := by
  unfold changesC rowsC changeC wkChange zzN
  simp [numB_low]
theorem wk_readV : readW (rdVal 64) okV [0, 0] = none := by
  have : rdVal 64 [0, 0] = some (.mk 0 false 0 [] [] [], [0]) := by
    rfl
  unfold readW
  rw [this]
theorem wk_readN : gotN [172, 2, 7] = (300, 2, 0) := by
  unfold gotN
  have h := rt_num.full 300 [7] (by unfold u64T; omega)
  have e : numB 300 = [172, 2] := by rw [numB_high (by omega), numB_low (by omega)]; rfl
  rw [e] at h
  have e2 : ([172, 2] : List UInt8) ++ [7] = [172, 2, 7] := rfl
  rw [e2] at h
  rw [h]
  rfl
end Go.Proofs.YthdfedfholmbmaaDoor

namespace Go.Proofs.YthdfedfholmbmaaDoor
open Go.RowKit
theorem rds_one {W : World} {g : Nat} {T : TypeId} {s : List UInt8} (h : W.heap[g]? = some (.cells #[.string (strB s)] T (0, 0))) (hs : s.length ≤ 1000000) : RdS W (some ⟨g, 0, none⟩) 1 [s] := by
  refine ⟨Nat.le_refl _, ⟨by simp, by omega⟩, (fun h => by cases h), (fun x hx => by simp at hx; subst hx; omega), fun ad had => ⟨fun _ => by cases had; rfl, fun i t ht => ?_⟩⟩
  cases had
  match i, ht with
  | 0, ht => cases ht; exact cellOf (o := 0) h rfl
  | n + 1, ht => simp at ht
theorem wk_graph_rd {w : World} : GrRd (((w.alloc (.cells #[.string ⟨#[65]⟩] 9)).alloc (.cells #[.int .i64 0, .slice (some ⟨w.heap.size, 0, none⟩) 1 1, .slice none 0 0] 51)).alloc (.cells #[.slice (some ⟨w.heap.size + 1, 0, none⟩) 1 1, .slice none 0 0, .int .i64 1, .int .i64 0] 55)) wkGraph
    #[.slice (some ⟨w.heap.size + 1, 0, none⟩) 1 1, .slice none 0 0, .int .i64 1, .int .i64 0] := by
  have h1 : (((w.alloc (.cells #[.string ⟨#[65]⟩] 9)).alloc (.cells #[.int .i64 0, .slice (some ⟨w.heap.size, 0, none⟩) 1 1, .slice none 0 0] 51)).alloc (.cells #[.slice (some ⟨w.heap.size + 1, 0, none⟩) 1 1, .slice none 0 0, .int .i64 1, .int .i64 0] 55)).heap[w.heap.size + 1]? = some (.cells #[.int .i64 0, .slice (some ⟨w.heap.size, 0, none⟩) 1 1, .slice none 0 0] 51 (0, 0)) := by
    simp only [heap_get_alloc, World.size_alloc]; rw [if_neg (by omega), if_pos trivial]
  have h0 : (((w.alloc (.cells #[.string ⟨#[65]⟩] 9)).alloc (.cells #[.int .i64 0, .slice (some ⟨w.heap.size, 0, none⟩) 1 1, .slice none 0 0] 51)).alloc (.cells #[.slice (some ⟨w.heap.size + 1, 0, none⟩) 1 1, .slice none 0 0, .int .i64 1, .int .i64 0] 55)).heap[w.heap.size]? = some (.cells #[.string ⟨#[65]⟩] 9 (0, 0)) := by
    simp only [heap_get_alloc, World.size_alloc]; rw [if_neg (by omega), if_neg (by omega), if_pos trivial]
  refine ⟨some ⟨w.heap.size + 1, 0, none⟩, 1, none, 0, rfl, grd_one h1 rfl ?_, grd_none⟩
  exact ⟨some ⟨w.heap.size, 0, none⟩, 1, none, 0, rfl, rds_one (s := [65]) h0 (by simp), grd_none⟩
theorem wk_callG {w : World} (hE : Env w) : Calls Tryd.prog 17 #[.agg #[.slice (some ⟨w.heap.size + 1, 0, none⟩) 1 1, .slice none 0 0, .int .i64 1, .int .i64 0]]
    (((w.alloc (.cells #[.string ⟨#[65]⟩] 9)).alloc (.cells #[.int .i64 0, .slice (some ⟨w.heap.size, 0, none⟩) 1 1, .slice none 0 0] 51)).alloc (.cells #[.slice (some ⟨w.heap.size + 1, 0, none⟩) 1 1, .slice none 0 0, .int .i64 1, .int .i64 0] 55)) fun e W => ∃ p c, e = .returned (.tuple #[.slice p 9 c, .int .i64 0]) ∧ RdB W (.slice p 9 c) [1, 0, 1, 1, 65, 0, 0, 1, 0] ∧ Below w.heap.size w W := by
  have hb : Below w.heap.size w (((w.alloc (.cells #[.string ⟨#[65]⟩] 9)).alloc (.cells #[.int .i64 0, .slice (some ⟨w.heap.size, 0, none⟩) 1 1, .slice none 0 0] 51)).alloc (.cells #[.slice (some ⟨w.heap.size + 1, 0, none⟩) 1 1, .slice none 0 0, .int .i64 1, .int .i64 0] 55)) := ((below_new _).alloc (by simp) _).alloc (by simp; omega) _
  refine (codecGraph_any (hE.b hb) wk_graph_rd wk_rng (by rw [wk_tot]; omega)).mono ?_
  rintro e W ⟨o, rfl, ho, hbw⟩
  have e1 : outG wkGraph = [1, 0, 1, 1, 65, 0, 0, 1, 0] := by unfold outG; rw [wk_okG, wk_graphC]; rfl
  rw [e1] at ho
  obtain ⟨p, c, rfl, hr⟩ := own_rdB ho
  exact ⟨p, c, by rw [wk_okG]; rfl, hr, below_trans hb hbw⟩
theorem wk_callRG {W : World} (hE : Env W) {p : Option Addr} {c : Nat} (h : RdB W (.slice p 9 c) [1, 0, 1, 1, 65, 0, 0, 1, 0]) : Calls Tryd.prog 18 #[.slice p 9 c] W fun e W' => ∃ pn cn vr, e = .returned (.tuple #[.agg #[.slice pn 1 cn, vr, .int .i64 1, .int .i64 0], .int .i64 0]) ∧ vr.oneCell' = true ∧ Below W.heap.size W W' := by
  refine (readPub_G (bs := [1, 0, 1, 1, 65, 0, 0, 1, 0]) hE h (by simp)).mono ?_
  rintro e W' ⟨cs, rfl, ho, hb⟩
  rw [wk_readG] at ho ⊢
  obtain ⟨vn, vr, rfl, h1, h2⟩ := ho
  obtain ⟨pn, cn, rfl⟩ := h1.slice
  refine ⟨pn, cn, vr, rfl, ?_, hb⟩
  obtain ⟨xs, h3, _⟩ := h2
  exact own_one h3
abbrev wkCh : Array Value := #[.int .i64 2, .int .i64 5, .int .i64 0, .int .i64 0, .slice none 0 0, .slice none 0 0, .int .i64 0, .int .i64 0, .int .i64 0, .string ⟨#[]⟩, .slice none 0 0]
theorem wk_change_rd {W : World} : CRd W wkChange wkCh :=
  ⟨#[.int .i64 0, .slice none 0 0, .slice none 0 0], #[.int .i64 0, .int .i64 0, .int .i64 0, .string ⟨#[]⟩, .slice none 0 0], rfl, ⟨none, 0, none, 0, rfl, ⟨Nat.le_refl _, ⟨by simp [wkChange, node0], by omega⟩, fun _ => rfl, fun s hs => (by simp [wkChange, node0] at hs), fun ad h => by cases h⟩, grd_none⟩, ⟨none, 0, rfl, by simp [wkChange, rel0], grd_none⟩⟩
theorem wk_callC {W : World} (hE : Env W) : Calls Tryd.prog 19 #[.slice (some ⟨W.heap.size, 0, none⟩) 1 1] (W.alloc (.cells wkCh 64)) fun e W' => ∃ p c, e = .returned (.tuple #[.slice p 3 c, .int .i64 0]) ∧ RdB W' (.slice p 3 c) [1, 2, 10] ∧ Below W.heap.size W W' := by
  have hb := below_new (w := W) (.cells wkCh 64)
  have hx := heap_alloc_new W (.cells wkCh 64)
  refine (codecChanges_any (l := [wkChange]) (hE.b hb) (grd_one hx rfl wk_change_rd) (fun x hx => ?_) (by simp [wkChange, totC, totN, totR, node0, rel0, totLs, totPs])).mono ?_
  · simp only [List.mem_cons, List.not_mem_nil, or_false] at hx
    subst hx
    exact ⟨by unfold wkChange i64T; simp, by unfold wkChange i64T; simp, by unfold wkChange i64T; simp, rng_node0, rng_rel0⟩
  · rintro e W' ⟨o, rfl, ho, hbw⟩
    have e1 : outC [wkChange] = [1, 2, 10] := by unfold outC; rw [wk_okC, wk_changesC]; rfl
    have e2 : errC [wkChange] = 0 := by unfold errC; rw [wk_okC]; rfl
    rw [e1] at ho
    obtain ⟨p, c, rfl, hr⟩ := own_rdB ho
    exact ⟨p, c, by rw [e2]; rfl, hr, below_trans hb hbw⟩
theorem wk_callRV {W : World} (hE : Env W) : Calls Tryd.prog 14 #[.slice (some ⟨W.heap.size, 0, none⟩) 2 2] (W.alloc (.cells #[.int .u8 0, .int .u8 0] 5)) fun e W' => ∃ cs, e = .returned (.tuple #[.agg cs, .int .i64 290]) ∧ (cs.size = 6 ∧ ∀ u ∈ cs.toList, u.oneCell' = true) ∧ Below W.heap.size W W' := by
  have hb := below_new (w := W) (.cells #[.int .u8 0, .int .u8 0] 5)
  have hx := heap_alloc_new W (.cells #[.int .u8 0, .int .u8 0] 5)
  refine (readPub_V (bs := [0, 0]) (hE.b hb) (lit_rd (l := [0, 0]) hx rfl (by simp)) (by simp)).mono ?_
  rintro e W' ⟨cs, rfl, ho, hbw⟩
  rw [wk_readV] at ho ⊢
  exact ⟨cs, rfl, ⟨ho.size6, ho.ones⟩, below_trans hb hbw⟩
theorem wk_callRN {W : World} : Calls Tryd.prog 7 #[.slice (some ⟨W.heap.size, 0, none⟩) 3 3] (W.alloc (.cells #[.int .u8 172, .int .u8 2, .int .u8 7] 5)) fun e W' => e = .returned (.tuple #[.int .u64 300, .int .i64 2, .int .i64 0]) ∧ Below W.heap.size W W' := by
  have hb := below_new (w := W) (.cells #[.int .u8 172, .int .u8 2, .int .u8 7] 5)
  have hx := heap_alloc_new W (.cells #[.int .u8 172, .int .u8 2, .int .u8 7] 5)
  refine (readPub_N (bs := [172, 2, 7]) (lit_rd (l := [172, 2, 7]) hx rfl (by simp)) (by simp)).mono ?_
  rintro e W' ⟨rfl, hbw⟩
  rw [wk_readN]
  exact ⟨rfl, below_trans hb hbw⟩
abbrev wkL9 : Array Value := #[.int .u8 1, .int .u8 0, .int .u8 1, .int .u8 1, .int .u8 65, .int .u8 0, .int .u8 0, .int .u8 1, .int .u8 0]
abbrev wkL3 : Array Value := #[.int .u8 1, .int .u8 2, .int .u8 10]
theorem wk_bytes9 {W : World} {p : Option Addr} {c : Nat} (h : RdB W (.slice p 9 c) [1, 0, 1, 1, 65, 0, 0, 1, 0]) : Calls Tryd.prog 9 #[.slice p 9 c, .slice (some ⟨W.heap.size, 0, none⟩) 9 9] (W.alloc (.cells wkL9 5)) fun e W' => e = .returned (.bool true) ∧ W.alloc (.cells wkL9 5) = W' := by
  have hb := below_new (w := W) (.cells wkL9 5)
  refine (bytes_any (l := [1, 0, 1, 1, 65, 0, 0, 1, 0]) (m := [1, 0, 1, 1, 65, 0, 0, 1, 0]) (h.below hb) (lit_rd (l := [1, 0, 1, 1, 65, 0, 0, 1, 0]) (heap_alloc_new W (.cells wkL9 5)) rfl (by simp))).mono ?_
  rintro e W' ⟨rfl, rfl⟩
  exact ⟨rfl, rfl⟩
theorem wk_bytes3 {W : World} {p : Option Addr} {c : Nat} (h : RdB W (.slice p 3 c) [1, 2, 10]) : Calls Tryd.prog 9 #[.slice p 3 c, .slice (some ⟨W.heap.size, 0, none⟩) 3 3] (W.alloc (.cells wkL3 5)) fun e W' => e = .returned (.bool true) ∧ W.alloc (.cells wkL3 5) = W' := by
  have hb := below_new (w := W) (.cells wkL3 5)
  refine (bytes_any (l := [1, 2, 10]) (m := [1, 2, 10]) (h.below hb) (lit_rd (l := [1, 2, 10]) (heap_alloc_new W (.cells wkL3 5)) rfl (by simp))).mono ?_
  rintro e W' ⟨rfl, rfl⟩
  exact ⟨rfl, rfl⟩
set_option maxRecDepth 100000 in
set_option maxHeartbeats 4000000 in
theorem worksG_any {w : World} (hE : Env w) : Calls Tryd.prog 5 #[] w fun e w' => e = .returned (.bool true) ∧ Below w.heap.size w w' := by
  have HG := Lib.hid (wk_callG hE)
  have HE := Lib.hid hE
  clear hE
  go_enter Tryd.func5, Tryd.ntmps5
  go_wp2_with (first
    | (go_at_call 17; refine HG.out.mono ?_; rintro e W2 ⟨p, c, rfl, hr, hb⟩; have H2 := Lib.hid (And.intro hr hb); clear hr hb HG)
    | (go_at_call 18; refine (wk_callRG (HE.out.b H2.out.2) H2.out.1).mono ?_; rintro e W3 ⟨pn, cn, vr, rfl, hv, hb⟩
       (
        have HS := Lib.hid (st_graph.fresh (P := Tryd.prog) (W := W3) (cs := #[.slice pn 1 cn, vr, .int .i64 1, .int .i64 0]) rfl (by intro u hu; simp only [List.mem_cons, List.not_mem_nil, or_false] at hu; rcases hu with rfl | rfl | rfl | rfl <;> first | rfl | assumption))
        have H3 := Lib.hid (And.intro (H2.out.1.below hb) (below_trans H2.out.2 hb))
        clear hv hb H2))
    | ((with_reducible apply op_store); exact HS.out _ rfl; exact rfl; exact rfl
       (
        have hbn := below_new (w := W3) (.cells #[.slice pn 1 cn, vr, .int .i64 1, .int .i64 0] 55)
        have H4 := Lib.hid (And.intro (H3.out.1.below hbn) (And.intro (below_trans H3.out.2 hbn) (heap_alloc_new W3 (.cells #[.slice pn 1 cn, vr, .int .i64 1, .int .i64 0] 55))))
        clear hbn HS H3
        generalize W3.alloc (.cells #[.slice pn 1 cn, vr, .int .i64 1, .int .i64 0] 55) = W4 at *
        generalize W3.heap.size = B4 at *
        have HC := Lib.hid (wk_callC (HE.out.b H4.out.2.1))))
    | (go_at_call 19
       (
        refine HC.out.mono ?_; rintro e W5 ⟨p5, c5, rfl, hr5, hb⟩
        have H5 := Lib.hid (And.intro (H4.out.1.below hb) (And.intro (below_trans H4.out.2.1 hb) (And.intro (belowBlk hb (Array.getElem?_eq_some_iff.1 H4.out.2.2).1 H4.out.2.2) hr5)))
        clear hb hr5 HC H4
        have HV := Lib.hid (wk_callRV (HE.out.b H5.out.2.1))))
    | (go_at_call 14
       (
        refine HV.out.mono ?_; rintro e W6 ⟨cv, rfl, hcv, hb⟩
        have HS2 := Lib.hid (st_val.fresh (P := Tryd.prog) (W := W6) hcv.1 hcv.2)
        have H6 := Lib.hid (And.intro (H5.out.1.below hb) (And.intro (below_trans H5.out.2.1 hb) (And.intro (belowBlk hb (Array.getElem?_eq_some_iff.1 H5.out.2.2.1).1 H5.out.2.2.1) (H5.out.2.2.2.below hb))))
        clear hb hcv HV H5))
    | ((with_reducible apply op_store); exact HS2.out _ rfl; exact rfl; exact rfl
       (
        have hbn := below_new (w := W6) (.cells cv 41)
        have H7 := Lib.hid (And.intro (H6.out.1.below hbn) (And.intro (below_trans H6.out.2.1 hbn) (And.intro (belowBlk hbn (Array.getElem?_eq_some_iff.1 H6.out.2.2.1).1 H6.out.2.2.1) (H6.out.2.2.2.below hbn))))
        clear hbn HS2 H6
        generalize W6.alloc (.cells cv 41) = W7 at *
        generalize W6.heap.size = B6 at *
        have HN := Lib.hid (wk_callRN (W := W7))))
    | (go_at_call 7
       (
        refine HN.out.mono ?_; rintro e W8 ⟨rfl, hb⟩
        have H8 := Lib.hid (And.intro (H7.out.1.below hb) (And.intro (below_trans H7.out.2.1 hb) (And.intro (belowBlk hb (Array.getElem?_eq_some_iff.1 H7.out.2.2.1).1 H7.out.2.2.1) (H7.out.2.2.2.below hb))))
        clear hb HN H7))
    | (go_at_call 11; refine (num_err _ _).mono ?_; rintro e w' ⟨rfl, rfl⟩)
    | (go_at_call 9
       (
        refine (wk_bytes9 H8.out.1).mono ?_
        rintro e W9 ⟨rfl, h9⟩
        have hb := below_new (w := W8) (.cells wkL9 5)
        rw [h9] at hb
        have hc4 := cellOf (o := 0) (belowBlk hb (Array.getElem?_eq_some_iff.1 H8.out.2.2.1).1 H8.out.2.2.1) rfl
        have H9 := Lib.hid (And.intro (below_trans H8.out.2.1 hb) (H8.out.2.2.2.below hb))
        clear hb h9 H8))
    | (go_at_call 9
       (
        refine (wk_bytes3 H9.out.2).mono ?_
        rintro e W10 ⟨rfl, h10⟩
        have hb := below_new (w := W9) (.cells wkL3 5)
        rw [h10] at hb
        have H10 := Lib.hid (below_trans H9.out.1 hb)
        clear hb h10 H9)))
  go_ret
  exact ⟨rfl, H10.out⟩
end Go.Proofs.YthdfedfholmbmaaDoor

namespace Go.Proofs.YthdfedfholmbmaaDoor
open Go.RowKit
def wholeOk (s : Rs) : Bool := !(docN s).2.2 && decide ((docN s).2.1 = [])
set_option maxRecDepth 100000 in
set_option maxHeartbeats 8000000 in
theorem dwhole_any {w W : World} {q : Nat} {l : List UInt8} {bad : Bool} (h : DSt 31 w W q l bad) :
    Calls Tryd.prog 8 #[.pointer (some ⟨q, 0, none⟩)] W fun e W' => e = .returned (.tuple #[.int .u64 ((docN (l, bad)).1 : Int), .bool (wholeOk (l, bad))]) ∧ Below w.heap.size w W' := by
  have hn := dnum_any h
  unfold wholeOk
  generalize docN (l, bad) = r at *
  obtain ⟨n, l', b'⟩ := r
  have HN := Lib.hid hn
  clear h hn
  simp only
  have hf0 : ∀ W' : World, (Instr.fieldAt 31 (.pointer (some ⟨q, 0, none⟩)) 0).run Tryd.prog W' = .ok (.pointer (some ⟨q, 0, none⟩)) W' := by intro W'; simp [go_sem]
  have hf1 : ∀ W' : World, (Instr.fieldAt 31 (.pointer (some ⟨q, 0, none⟩)) 1).run Tryd.prog W' = .ok (.pointer (some ⟨q, 1, none⟩)) W' := by intro W'; simp [go_sem]
  cases b'
  · go_enter Tryd.func8, Tryd.ntmps8
    go_wp2_with (go_at_call 24
                 (
                  refine HN.out.mono ?_
                  rintro e W1 ⟨v, rfl, rfl, hD, hT⟩
                  have hB := hD.b
                  replace hD : DSt 31 w W1 q l' false := hD
                  obtain ⟨p, c, h1, h2⟩ := hD.box
                  have z1 := rd_len h2
                  have HF := Lib.hid (And.intro hB h1)
                  clear hD hT hB h1 h2))
    have h1 : W1.drew.heap[q]? = some (.cells #[.slice p l'.length c, .bool false] 31 (0, 0)) := HF.out.2
    have hz : ∀ W' : World, (binOp .eql 3 (.int .i64 (l'.length : Int)) (.int .i64 0)).run Tryd.prog W' = .ok (.bool (decide (l' = []))) W' := fun W' => by
      have e : decide (l' = []) = ((l'.length : Int) == 0) := by cases l' with
        | nil => simp
        | cons a r => simp; omega
      rw [e]; simp [go_sem]
    refine plain_region_draws (fun W => W.heap[q]? = some (.cells #[.slice p l'.length c, .bool false] 31 (0, 0))) (by kernel_rfl) h1 (fun hS => ?_)
    refine take 0 7 (v := .int .u64 (n : Int)) rfl rfl (by kernel_rfl) (by kernel_rfl) (by kernel_rfl) rfl (fun W hW => exec_move rfl rfl) (by assumption) ?_
    simp only [Act.put, List.setIfInBounds_toArray, List.set_cons_zero, List.set_cons_succ]
    refine take 1 8 (v := .pointer (some ⟨q, 0, none⟩)) rfl rfl (by kernel_rfl) (by kernel_rfl) (by kernel_rfl) rfl (fun W hW => exec_move rfl rfl) (by assumption) ?_
    simp only [Act.put, List.setIfInBounds_toArray, List.set_cons_zero, List.set_cons_succ]
    refine take 2 9 (v := .pointer (some ⟨q, 0, none⟩)) rfl rfl (by kernel_rfl) (by kernel_rfl) (by kernel_rfl) rfl (fun W hW => rfl) (by assumption) ?_
    simp only [Act.put, List.setIfInBounds_toArray, List.set_cons_zero, List.set_cons_succ]
    refine take 3 10 (v := .pointer (some ⟨q, 1, none⟩)) rfl rfl (by kernel_rfl) (by kernel_rfl) (by kernel_rfl) rfl (fun W hW => exec_fieldAddr rfl rfl (hf1 W)) (by assumption) ?_
    simp only [Act.put, List.setIfInBounds_toArray, List.set_cons_zero, List.set_cons_succ]
    refine take 4 11 (v := .bool false) rfl rfl (by kernel_rfl) (by kernel_rfl) (by kernel_rfl) rfl (fun W hW => exec_load rfl rfl (box_load (w := W) Tryd.underlying4 rfl hW rfl)) (by assumption) ?_
    simp only [Act.put, List.setIfInBounds_toArray, List.set_cons_zero, List.set_cons_succ]
    refine take 5 12 (v := .bool true) rfl rfl (by kernel_rfl) (by kernel_rfl) (by kernel_rfl) rfl (fun W hW => exec_unot (b := false) rfl rfl) (by assumption) ?_
    simp only [Act.put, List.setIfInBounds_toArray, List.set_cons_zero, List.set_cons_succ]
    refine take 6 13 (v := .bool true) rfl rfl (by kernel_rfl) (by kernel_rfl) (by kernel_rfl) rfl (fun W hW => exec_move rfl rfl) (by assumption) ?_
    simp only [Act.put, List.setIfInBounds_toArray, List.set_cons_zero, List.set_cons_succ]
    refine take 7 14 (v := .pointer (some ⟨q, 0, none⟩)) rfl rfl (by kernel_rfl) (by kernel_rfl) (by kernel_rfl) rfl (fun W hW => exec_move rfl rfl) (by assumption) ?_
    simp only [Act.put, List.setIfInBounds_toArray, List.set_cons_zero, List.set_cons_succ]
    refine take 8 15 (v := .pointer (some ⟨q, 0, none⟩)) rfl rfl (by kernel_rfl) (by kernel_rfl) (by kernel_rfl) rfl (fun W hW => rfl) (by assumption) ?_
    simp only [Act.put, List.setIfInBounds_toArray, List.set_cons_zero, List.set_cons_succ]
    refine take 9 16 (v := .pointer (some ⟨q, 0, none⟩)) rfl rfl (by kernel_rfl) (by kernel_rfl) (by kernel_rfl) rfl (fun W hW => exec_fieldAddr rfl rfl (hf0 W)) (by assumption) ?_
    simp only [Act.put, List.setIfInBounds_toArray, List.set_cons_zero, List.set_cons_succ]
    refine take 10 17 (v := .slice p l'.length c) rfl rfl (by kernel_rfl) (by kernel_rfl) (by kernel_rfl) rfl (fun W hW => exec_load rfl rfl (box_load (w := W) Tryd.underlying23 rfl hW rfl)) (by assumption) ?_
    simp only [Act.put, List.setIfInBounds_toArray, List.set_cons_zero, List.set_cons_succ]
    refine take 11 18 (v := .int .i64 (l'.length : Int)) rfl rfl (by kernel_rfl) (by kernel_rfl) (by kernel_rfl) rfl (fun W hW => exec_lenb rfl rfl) (by assumption) ?_
    simp only [Act.put, List.setIfInBounds_toArray, List.set_cons_zero, List.set_cons_succ]
    refine take 12 19 (v := .bool (decide (l' = []))) rfl rfl (by kernel_rfl) (by kernel_rfl) (by kernel_rfl) rfl (fun W hW => exec_bini rfl rfl rfl (hz W)) (by assumption) ?_
    simp only [Act.put, List.setIfInBounds_toArray, List.set_cons_zero, List.set_cons_succ]
    refine take 13 20 (v := .bool (decide (l' = []))) rfl rfl (by kernel_rfl) (by kernel_rfl) (by kernel_rfl) rfl (fun W hW => rfl) (by assumption) ?_
    simp only [Act.put, List.setIfInBounds_toArray, List.set_cons_zero, List.set_cons_succ]
    refine take 14 2 (v := .int .u64 (n : Int)) rfl rfl (by kernel_rfl) (by kernel_rfl) (by kernel_rfl) rfl (fun W hW => exec_assign rfl rfl) (by assumption) ?_
    simp only [Act.put, List.setIfInBounds_toArray, List.set_cons_zero, List.set_cons_succ]
    refine take 15 3 (v := .bool (decide (l' = []))) rfl rfl (by kernel_rfl) (by kernel_rfl) (by kernel_rfl) rfl (fun W hW => exec_assign rfl rfl) (by assumption) ?_
    simp only [Act.put, List.setIfInBounds_toArray, List.set_cons_zero, List.set_cons_succ]
    refine done (by kernel_rfl) ?_ _
    clear hS h1 hz hf0 hf1
    go_wp2
    go_ret2
    exact ⟨rfl, HF.out.1.drew⟩
  · go_enter Tryd.func8, Tryd.ntmps8
    go_wp2_with (go_at_call 24
                 (
                  refine HN.out.mono ?_
                  rintro e W1 ⟨v, rfl, rfl, hD, hT⟩
                  have hB := hD.b
                  replace hD : DSt 31 w W1 q l' true := hD
                  obtain ⟨p, c, h1, h2⟩ := hD.box
                  have z1 := rd_len h2
                  have HF := Lib.hid (And.intro hB h1)
                  clear hD hT hB h1 h2))
    have h1 : W1.drew.heap[q]? = some (.cells #[.slice p l'.length c, .bool true] 31 (0, 0)) := HF.out.2
    have hz : ∀ W' : World, (binOp .eql 3 (.int .i64 (l'.length : Int)) (.int .i64 0)).run Tryd.prog W' = .ok (.bool (decide (l' = []))) W' := fun W' => by
      have e : decide (l' = []) = ((l'.length : Int) == 0) := by cases l' with
        | nil => simp
        | cons a r => simp; omega
      rw [e]; simp [go_sem]
    refine plain_region_draws (fun W => W.heap[q]? = some (.cells #[.slice p l'.length c, .bool true] 31 (0, 0))) (by kernel_rfl) h1 (fun hS => ?_)
    refine take 0 7 (v := .int .u64 (n : Int)) rfl rfl (by kernel_rfl) (by kernel_rfl) (by kernel_rfl) rfl (fun W hW => exec_move rfl rfl) (by assumption) ?_
    simp only [Act.put, List.setIfInBounds_toArray, List.set_cons_zero, List.set_cons_succ]
    refine take 1 8 (v := .pointer (some ⟨q, 0, none⟩)) rfl rfl (by kernel_rfl) (by kernel_rfl) (by kernel_rfl) rfl (fun W hW => exec_move rfl rfl) (by assumption) ?_
    simp only [Act.put, List.setIfInBounds_toArray, List.set_cons_zero, List.set_cons_succ]
    refine take 2 9 (v := .pointer (some ⟨q, 0, none⟩)) rfl rfl (by kernel_rfl) (by kernel_rfl) (by kernel_rfl) rfl (fun W hW => rfl) (by assumption) ?_
    simp only [Act.put, List.setIfInBounds_toArray, List.set_cons_zero, List.set_cons_succ]
    refine take 3 10 (v := .pointer (some ⟨q, 1, none⟩)) rfl rfl (by kernel_rfl) (by kernel_rfl) (by kernel_rfl) rfl (fun W hW => exec_fieldAddr rfl rfl (hf1 W)) (by assumption) ?_
    simp only [Act.put, List.setIfInBounds_toArray, List.set_cons_zero, List.set_cons_succ]
    refine take 4 11 (v := .bool true) rfl rfl (by kernel_rfl) (by kernel_rfl) (by kernel_rfl) rfl (fun W hW => exec_load rfl rfl (box_load (w := W) Tryd.underlying4 rfl hW rfl)) (by assumption) ?_
    simp only [Act.put, List.setIfInBounds_toArray, List.set_cons_zero, List.set_cons_succ]
    refine take 5 12 (v := .bool false) rfl rfl (by kernel_rfl) (by kernel_rfl) (by kernel_rfl) rfl (fun W hW => exec_unot (b := true) rfl rfl) (by assumption) ?_
    simp only [Act.put, List.setIfInBounds_toArray, List.set_cons_zero, List.set_cons_succ]
    refine take 6 13 (v := .bool false) rfl rfl (by kernel_rfl) (by kernel_rfl) (by kernel_rfl) rfl (fun W hW => exec_move rfl rfl) (by assumption) ?_
    simp only [Act.put, List.setIfInBounds_toArray, List.set_cons_zero, List.set_cons_succ]
    refine takeNot 7 14 rfl rfl (by kernel_rfl) (by kernel_rfl) (by kernel_rfl) rfl (by assumption) ?_
    simp only [Act.put, List.setIfInBounds_toArray, List.set_cons_zero, List.set_cons_succ]
    refine takeNot 8 15 rfl rfl (by kernel_rfl) (by kernel_rfl) (by kernel_rfl) rfl (by assumption) ?_
    simp only [Act.put, List.setIfInBounds_toArray, List.set_cons_zero, List.set_cons_succ]
    refine takeNot 9 16 rfl rfl (by kernel_rfl) (by kernel_rfl) (by kernel_rfl) rfl (by assumption) ?_
    simp only [Act.put, List.setIfInBounds_toArray, List.set_cons_zero, List.set_cons_succ]
    refine takeNot 10 17 rfl rfl (by kernel_rfl) (by kernel_rfl) (by kernel_rfl) rfl (by assumption) ?_
    simp only [Act.put, List.setIfInBounds_toArray, List.set_cons_zero, List.set_cons_succ]
    refine takeNot 11 18 rfl rfl (by kernel_rfl) (by kernel_rfl) (by kernel_rfl) rfl (by assumption) ?_
    simp only [Act.put, List.setIfInBounds_toArray, List.set_cons_zero, List.set_cons_succ]
    refine takeNot 12 19 rfl rfl (by kernel_rfl) (by kernel_rfl) (by kernel_rfl) rfl (by assumption) ?_
    simp only [Act.put, List.setIfInBounds_toArray, List.set_cons_zero, List.set_cons_succ]
    refine take 13 20 (v := .bool false) rfl rfl (by kernel_rfl) (by kernel_rfl) (by kernel_rfl) rfl (fun W hW => rfl) (by assumption) ?_
    simp only [Act.put, List.setIfInBounds_toArray, List.set_cons_zero, List.set_cons_succ]
    refine take 14 2 (v := .int .u64 (n : Int)) rfl rfl (by kernel_rfl) (by kernel_rfl) (by kernel_rfl) rfl (fun W hW => exec_assign rfl rfl) (by assumption) ?_
    simp only [Act.put, List.setIfInBounds_toArray, List.set_cons_zero, List.set_cons_succ]
    refine take 15 3 (v := .bool false) rfl rfl (by kernel_rfl) (by kernel_rfl) (by kernel_rfl) rfl (fun W hW => exec_assign rfl rfl) (by assumption) ?_
    simp only [Act.put, List.setIfInBounds_toArray, List.set_cons_zero, List.set_cons_succ]
    refine done (by kernel_rfl) ?_ _
    clear hS h1 hz hf0 hf1
    go_wp2
    go_ret2
    exact ⟨rfl, HF.out.1.drew⟩
end Go.Proofs.YthdfedfholmbmaaDoor

namespace Go.Proofs.YthdfedfholmbmaaDoor
open Go.RowKit
section
variable {w W W1 : World} {o : Value} {l m : List UInt8}
theorem Buf.shape (h : Buf w W o l) : ∃ p c, o = .slice p l.length c := slices_of h.own
theorem Buf.ap (h : Buf w W o l) (hb : Below W.heap.size W W1) {ad : Addr} {c : Nat} (src : ∀ (j : Nat) (u : Value), (m.map byteV)[j]? = some u → W1.cell? (ad.add j) = some u) (hn : l.length + m.length ≤ 70368744177664) (ty : TypeId) :
    ∃ v W', (Builtin.append_ #[23, 23] ty #[o, .slice (some ad) m.length c]).run Tryd.prog W1 = .ok v W' ∧ Buf w W' v (l ++ m) := by
  have h1 := h.below hb
  obtain ⟨i, i1, i2, i3, i4⟩ := info_u8v
  have hsz := h1.b.size
  obtain ⟨v', W', a1, a2, a3, a4, a5⟩ := append_law (P := Tryd.prog) (w := W1) 23 ty 5 i _ 1 1 Tryd.underlying23 i1 i2 i3 i4 rfl o l.length _ h1.own.1 ad m.length c (m.map byteV)
    (by simp) src (fun u hu => by obtain ⟨s, _, rfl⟩ := List.mem_map.1 hu; rfl) (by unfold maxLen; omega) (by omega)
  refine ⟨v', W', a1, ⟨?_, fun q hq => ?_⟩, ?_⟩
  · rw [List.length_append, List.map_append]; exact a2
  · rcases a4 with e | e
    · exact h1.own.2 q (e.symm.trans hq)
    · rw [e] at hq; cases hq; exact hsz
  · exact a3.below h1.b (fun b hb e => by have := h1.own.2 b e; omega) hsz
theorem Buf.apr (h : Buf w W o l) (hb : Below W.heap.size W W1) {a : Option Addr} {n c : Nat} (hm : RdB W1 (.slice a n c) m) (hn : l.length + m.length ≤ 70368744177664) (ty : TypeId) :
    ∃ v W', (Builtin.append_ #[23, 23] ty #[o, .slice a n c]).run Tryd.prog W1 = .ok v W' ∧ Buf w W' v (l ++ m) := by
  obtain ⟨a', cap, heq, h1, h2⟩ := hm
  cases heq
  cases a with
  | none =>
    have hc := h1.2.2 rfl
    have hn : m = [] := List.eq_nil_of_length_eq_zero (by omega)
    subst hn; subst hc
    obtain ⟨i, i1, i2, i3, i4⟩ := info_u8v
    have hbl := h.below hb
    exact ⟨o, W1, append_law_nil (P := Tryd.prog) 23 ty 5 i 1 Tryd.underlying23 i1 i3 o l.length _ hbl.own.1, by rw [List.append_nil]; exact hbl⟩
  | some ad =>
    have hcell := RdB.at (w := W1) (c := c) ⟨_, _, rfl, h1, h2⟩
    exact h.ap hb (fun j u hu => by
      rw [List.getElem?_map, Option.map_eq_some_iff] at hu
      obtain ⟨b, hb, rfl⟩ := hu
      exact hcell j b hb) hn ty
theorem Buf.rd (h : Buf w W o l) : RdB W o l := by
  have hcells := fun (g : Nat) (e : o.ownBlock = some g) => h.own.1.cells (g := g) e
  rcases h.own.1.2 with ⟨rfl, h0⟩ | ⟨g, cap, cur, rfl, _, hg, hnc, hcm, hcs, htake⟩
  · have : l = [] := List.eq_nil_of_length_eq_zero h0
    subst this
    exact ⟨none, 0, rfl, ⟨Nat.le_refl _, by simp [maxLen], fun _ => rfl⟩, fun ad h => by cases h⟩
  · refine ⟨some ⟨g, 0, none⟩, cap, rfl, ⟨hnc, hcm, fun h => by cases h⟩, fun ad had => ?_⟩
    cases had
    refine ⟨fun _ => rfl, fun i b hi => ?_⟩
    have := hcells g rfl i (.int .u8 (b.toNat : Int)) (by rw [List.getElem?_map, hi]; rfl)
    rw [addr_add] at this; exact this
end
end Go.Proofs.YthdfedfholmbmaaDoor

namespace Go.Proofs.YthdfedfholmbmaaDoor
open Go.RowKit
theorem byte_add128 {k : Nat} (h : k < 18446744073709551616) : (128 + (k : Int) % 128) = ((UInt8.ofNat (k % 128 + 128)).toNat : Int) := by
  rw [ofNat_toNat (by omega)]
  omega
set_option maxRecDepth 100000 in
set_option maxHeartbeats 4000000 in
theorem dnumber_any {n : Nat} (hn : n < 18446744073709551616) (w : World) : Calls Tryd.prog 10 #[.int .u64 (n : Int)] w fun e w' => ∃ o, e = .returned o ∧ Buf w w' o (numB n) := by
  go_enter Tryd.func10, Tryd.ntmps10
  go_wp2
  go_loopw [0, 3] (fun i o wr => ∃ (k : Nat) (pre : List UInt8), i = .int .u64 (k : Int) ∧ k < 18446744073709551616 ∧ pre ++ numB k = numB n ∧ Hid (Buf w wr o pre)) (fun i _ _ => (intOf i).toNat)
  case atStart => exact ⟨n, [], rfl, hn, rfl, Lib.hid (Buf.empty w)⟩
  case round =>
    obtain ⟨k, pre, rfl, hk, hpre, HB⟩ := hrel
    have hlen : pre.length ≤ 1000000 := by
      have := congrArg List.length hpre
      have := numB_len 10 n (Nat.lt_of_lt_of_le hn (by decide)) (by omega)
      simp only [List.length_append] at *
      omega
    by_cases h : 128 ≤ k
    · have h' : (128 : Int) ≤ (k : Int) := by omega
      obtain ⟨v, W', ha, hI⟩ := HB.out.one (UInt8.ofNat (k % 128 + 128)) hlen 23
      rw [← byte_add128 hk] at ha
      have Ha := Lib.hid ha
      have HI := Lib.hid hI
      have HP := Lib.hid hpre
      clear ha hI hpre hlen
      go_wp2_with (refine wpList_append rfl rfl rfl rfl Ha.out ?_)
      go_roundw
      case rel => exact ⟨k / 128, pre ++ [UInt8.ofNat (k % 128 + 128)], by simp, by omega, by rw [List.append_assoc, List.singleton_append, ← numB_high (by omega)]; exact HP.out, HI⟩
      case measure => simp [intOf]; omega
    · have h' : (k : Int) < 128 := by omega
      obtain ⟨v, W', ha, hI⟩ := HB.out.one (UInt8.ofNat k) hlen 23
      have e3 : ((UInt8.ofNat k).toNat : Int) = (k : Int) := by rw [ofNat_toNat (by omega)]
      rw [e3] at ha
      rw [← numB_low (by omega), hpre] at hI
      have Ha := Lib.hid ha
      have HI := Lib.hid hI
      clear ha hI hpre hlen
      go_wp2_with (refine wpList_append rfl rfl rfl rfl Ha.out ?_)
      go_ret
      exact ⟨_, rfl, HI.out⟩
end Go.Proofs.YthdfedfholmbmaaDoor

namespace Go.Proofs.YthdfedfholmbmaaDoor
open Go.RowKit
theorem gotN_of {n : Nat} (hn : n < 18446744073709551616) (b : List UInt8) : gotN (numB n ++ b) = (n, (numB n).length, 0) := by
  unfold gotN
  rw [rt_num.full n b hn]
  simp
theorem gotN_at {b : List UInt8} {m : Nat} (h : wholeAt b m) (hm : m ≤ b.length) : gotN b = ((docN (b.take m, false)).1, m, 0) := by
  unfold gotN
  rw [whole_of h]
  simp only [List.length_drop]
  congr 2
  omega
theorem gotN_no {b : List UInt8} (h : ¬ ∃ m, 1 ≤ m ∧ m ≤ b.length ∧ m ≤ 10 ∧ wholeAt b m) : gotN b = (0, 0, 290) := by
  unfold gotN
  cases hr : rdN 0 0 b with
  | none => rfl
  | some p =>
    obtain ⟨n, r⟩ := p
    obtain ⟨h1, h2, h3, _⟩ := of_whole hr
    exact absurd ⟨_, by omega, by omega, h2, h3⟩ h
theorem whole_iff (b : List UInt8) (m : Nat) : wholeAt b m ↔ wholeOk (b.take m, false) = true ∧ numB (docN (b.take m, false)).1 = b.take m := by
  unfold wholeAt wholeOk
  simp only [Bool.and_eq_true, Bool.not_eq_true', decide_eq_true_eq]
  constructor
  · rintro ⟨h1, h2⟩; rw [h1]; exact ⟨⟨rfl, rfl⟩, h2⟩
  · rintro ⟨⟨h1, h2⟩, h3⟩; exact ⟨Prod.ext h2 h1, h3⟩
def wholeB (b : List UInt8) (k : Nat) : Bool := wholeOk (b.take k, false) && decide (numB (docN (b.take k, false)).1 = b.take k)
theorem wholeB_iff (b : List UInt8) (k : Nat) : wholeB b k = true ↔ wholeAt b k := by rw [whole_iff]; unfold wholeB; simp
def wantI (b : List UInt8) : Nat → Int
  | 0 => 290
  | 1 => 290
  | m + 2 => if wholeB b (m + 1) then 0 else wantI b (m + 1)
theorem want_one (b : List UInt8) : wantI b 1 = 290 := rfl
theorem want_yes {b : List UInt8} {m : Nat} (h1 : 1 ≤ m) (h : wholeAt b m) : wantI b (m + 1) = 0 := by
  obtain ⟨k, rfl⟩ : ∃ k, m = k + 1 := ⟨m - 1, by omega⟩
  rw [wantI, if_pos ((wholeB_iff b _).2 h)]
theorem want_no {b : List UInt8} {m : Nat} (h1 : 1 ≤ m) (h : ¬ wholeAt b m) : wantI b (m + 1) = wantI b m := by
  obtain ⟨k, rfl⟩ : ∃ k, m = k + 1 := ⟨m - 1, by omega⟩
  rw [wantI, if_neg fun e => h ((wholeB_iff b _).1 e)]
theorem want_is (b : List UInt8) : ∀ m, 1 ≤ m → (wantI b m = 0 ∧ ∃ k, 1 ≤ k ∧ k < m ∧ wholeAt b k) ∨ (wantI b m = 290 ∧ ¬ ∃ k, 1 ≤ k ∧ k < m ∧ wholeAt b k)
  | 0, h => by omega
  | 1, _ => .inr ⟨rfl, fun ⟨k, h1, h2, _⟩ => by omega⟩
  | m + 2, _ => by
    by_cases hw : wholeAt b (m + 1)
    · exact .inl ⟨want_yes (by omega) hw, m + 1, by omega, by omega, hw⟩
    · rw [want_no (by omega) hw]
      rcases want_is b (m + 1) (by omega) with ⟨h1, k, h2, h3, h4⟩ | ⟨h1, h2⟩
      · exact .inl ⟨h1, k, h2, by omega, h4⟩
      · refine .inr ⟨h1, fun ⟨k, k1, k2, k3⟩ => ?_⟩
        rcases Nat.lt_or_ge k (m + 1) with h | h
        · exact h2 ⟨k, k1, h, k3⟩
        · have : k = m + 1 := by omega
          rw [this] at k3; exact hw k3
set_option maxRecDepth 100000 in
set_option maxHeartbeats 16000000 in
theorem numbers_any {w : World} (hE : Env w) {n : Nat} (hn : n < 18446744073709551616) {p : Option Addr} {c : Nat} {b : List UInt8} (hbr : RdB w (.slice p b.length c) b) :
    Calls Tryd.prog 3 #[.int .u64 (n : Int), .slice p b.length c] w fun e w' => e = .returned (.bool true) ∧ Below w.heap.size w w' := by
  have z1 := rd_len hbr
  have HE := Lib.hid hE
  clear hE
  by_cases hbig : 3000 < b.length
  · have hbi : (3000 : Int) < (b.length : Int) := by omega
    clear hbr
    go_enter Tryd.func3, Tryd.ntmps3
    go_wp2_with (go_at_call 5; refine (worksG_any HE.out).mono ?_; rintro e W1 ⟨rfl, hb⟩; have HB0 := Lib.hid hb; clear hb)
    go_ret
    exact ⟨rfl, HB0.out⟩
  have hbi : ¬ (3000 : Int) < (b.length : Int) := by omega
  have hbl : b.length ≤ 3000 := by omega
  have hnl : (numB n).length ≤ 10 := numB_ten hn
  have HBR := Lib.hid hbr
  clear hbr
  go_enter Tryd.func3, Tryd.ntmps3
  go_wp2_with (first
    | (go_at_call 6
       (
        refine (cnumber_any hn w).mono ?_
        rintro e W1 ⟨o1, rfl, hB1⟩
        obtain ⟨p1, c1, rfl⟩ := hB1.shape
        have hbr := HBR.out
        have hb0 := below_new (w := W1) (.cells #[] 5)
        have hB0 : Buf W1 (W1.alloc (.cells #[] 5)) (.slice (some ⟨W1.heap.size, 0, none⟩) 0 0) [] := ⟨⟨ownsRow_of_heap (heap_alloc_new W1 _) (Nat.le_refl _) (by simp [maxLen]) rfl rfl rfl, fun g hg => by cases hg; exact Nat.le_refl _⟩, hb0⟩
        obtain ⟨v2, W2, a2, hB2⟩ := hB0.apr (Below.refl _ _) (hB1.rd.below hb0) (by simp only [List.length_nil]; omega) 23
        obtain ⟨v4, W4, a4, hB4⟩ := hB2.apr (Below.refl _ _) (hbr.below (below_trans hB1.b hB2.b)) (by simp only [List.nil_append]; omega) 23
        rw [List.nil_append] at hB4
        obtain ⟨p4, c4, rfl⟩ := hB4.shape
        have hgo := gotN_of hn b
        have hLL : (numB n ++ b).length ≤ 900000 := by rw [List.length_append]; omega
        generalize numB n ++ b = L at *
        have hrn := readPub_N hB4.rd hLL
        rw [hgo] at hrn
        have HB1 := Lib.hid hB1
        have HA2 := Lib.hid a2
        have HA4 := Lib.hid a4
        have HN1 := Lib.hid hrn
        have HB4 := Lib.hid hB4.b
        clear hB1 hb0 hB0 a2 hB2 a4 hB4 hgo hLL hrn hbr))
    | ((with_reducible apply op_append); exact HA2.out; exact rfl; exact rfl; clear HA2)
    | ((with_reducible apply op_append); exact HA4.out; exact rfl; exact rfl; clear HA4)
    | (go_at_call 7
       (
        refine HN1.out.mono ?_
        rintro e W5 ⟨rfl, hb5⟩
        have HW5 := Lib.hid (below_trans HB4.out hb5)
        have hrn := readPub_N (HBR.out.below (below_trans HB1.out.b HW5.out)) (by omega)
        have hgot := gotN_no (b := b)
        have hgot2 := fun m => gotN_at (b := b) (m := m)
        generalize hgg : gotN b = gg at *
        obtain ⟨y, i0, f0⟩ := gg
        have HG := Lib.hid (And.intro hgot hgot2)
        have HRN := Lib.hid hrn
        clear hb5 hgot hgot2 hgg hrn HN1))
    | (go_at_call 7
       (
        refine HRN.out.mono ?_
        rintro e W6 ⟨rfl, hb6⟩
        have HW6 := Lib.hid (below_trans (below_trans HB1.out.b HW5.out) hb6)
        have HBW := Lib.hid (below_trans HW5.out hb6)
        clear hb6 HRN)))
  go_loopw [12, 13] (fun x i W => ∃ (m : Nat), 1 ≤ m ∧ m ≤ 11 ∧ m ≤ b.length + 1 ∧ i = .int .i64 (m : Int) ∧ x = .int .i64 (wantI b m) ∧ Hid (Below W6.heap.size W6 W)) (fun _ i _ => 20 - (intOf i).toNat)
  case atStart => exact ⟨1, by omega, by omega, by omega, rfl, by rw [want_one], Lib.hid (Below.refl _ _)⟩
  case round =>
    obtain ⟨m, hm1, hm2, hm3, rfl, rfl, HI⟩ := hrel
    by_cases hin : m ≤ b.length ∧ m ≤ 10
    · obtain ⟨hmb, hm10⟩ := hin
      have hmi : (m : Int) ≤ (b.length : Int) := by omega
      have hmt : (m : Int) ≤ 10 := by omega
      have htl : (b.take m).length = m := by rw [List.length_take]; omega
      have hbr := HBR.out.below (below_trans HW6.out HI.out)
      obtain ⟨a3, hs3, hrd3, _⟩ := sub_rdB hbr none (some (m : Int)) 0 m (by simp) (by simp) (by simp) (by simp) (Nat.zero_le _) hmb
      simp only [Nat.sub_zero, List.drop_zero, Option.map_none, Option.map_some] at hs3 hrd3
      have hsl := hs3
      replace hrd3 : RdB wr (.slice a3 (b.take m).length c) (b.take m) := by rw [htl]; exact hrd3
      have hbx := below_new (w := wr) (.cells #[.slice a3 m c, .bool false] 31)
      have hbe := heap_alloc_new wr (.cells #[.slice a3 m c, .bool false] 31)
      have HSL := Lib.hid (show ∀ W', (Instr.sliceAt 23 (.slice p b.length c) none (some (.int .i64 (m : Int))) none).run Tryd.prog W' = .ok (.slice a3 (b.take m).length c) W' from by rw [htl]; exact hs3)
      have HSX := Lib.hid hs3
      have hwh : ∀ W, Below (wr.alloc (.cells #[.slice a3 m c, .bool false] 31)).heap.size (wr.alloc (.cells #[.slice a3 m c, .bool false] 31)) W → Calls Tryd.prog 8 #[.pointer (some ⟨wr.heap.size, 0, none⟩)] W fun e W' => e = .returned (.tuple #[.int .u64 ((docN (b.take m, false)).1 : Int), .bool (wholeOk (b.take m, false))]) ∧ Below wr.heap.size wr W' := fun W g => by
        have hd : DSt 31 wr W wr.heap.size (b.take m) false := ⟨below_trans hbx g, Nat.le_refl _, a3, c, by rw [htl]; exact belowBlk g (by simp) hbe, hrd3⟩
        exact dwhole_any hd
      have hv0 : (docN (b.take m, false)).1 < 18446744073709551616 := ds_num.rng _
      have hiff := whole_iff b m
      have hat := HG.out.2 m
      have hrd4 := fun W (g : Below wr.heap.size wr W) => hrd3.below g
      generalize (docN (b.take m, false)).1 = v0 at *
      generalize wholeOk (b.take m, false) = ok0 at *
      have HWH := Lib.hid hwh
      have HRD := Lib.hid hrd4
      have HX := Lib.hid (And.intro hiff hat)
      have HBX := Lib.hid hbx
      clear hwh hiff hat hbx hbe hrd3 hs3 hsl hbr htl hrd4
      go_wp2_with (first
        | ((with_reducible apply op_slice); exact HSX.out _; exact rfl; exact rfl; exact rfl; exact rfl; clear HSX)
        | (go_at_call 8
           (
            refine (HWH.out _ (Below.refl _ _)).mono ?_
            rintro e W8 ⟨rfl, hb8⟩
            have HW8 := Lib.hid hb8
            clear hb8 HWH)))
      have hcases : (ok0 = true ∧ numB v0 = b.take m) ∨ ¬ (ok0 = true ∧ numB v0 = b.take m) := Classical.em _
      have HSL2 := Lib.hid (fun W (h : Below W8.heap.size W8 W) => HRD.out W (below_trans HW8.out h))
      cases ok0
      · have HN : Hid (¬ wholeAt b m) := Lib.hid fun h => by have := (HX.out.1.1 h).1; cases this
        clear hcases
        refine plain_region_draws (fun W => Below W8.heap.size W8 W) (by kernel_rfl) (show Below W8.heap.size W8 W8.drew from (Below.refl _ _).drew) (fun hS => ?_)
        refine take 0 59 (v := .bool false) rfl rfl (by kernel_rfl) (by kernel_rfl) (by kernel_rfl) rfl (fun W hW => exec_move rfl rfl) (by assumption) ?_
        simp only [Act.put, List.setIfInBounds_toArray, List.set_cons_zero, List.set_cons_succ]
        refine take 1 60 (v := .bool false) rfl rfl (by kernel_rfl) (by kernel_rfl) (by kernel_rfl) rfl (fun W hW => exec_move rfl rfl) (by assumption) ?_
        simp only [Act.put, List.setIfInBounds_toArray, List.set_cons_zero, List.set_cons_succ]
        refine takeNot 2 61 rfl rfl (by kernel_rfl) (by kernel_rfl) (by kernel_rfl) rfl (by assumption) ?_
        simp only [Act.put, List.setIfInBounds_toArray, List.set_cons_zero, List.set_cons_succ]
        refine takeNot 4 63 rfl rfl (by kernel_rfl) (by kernel_rfl) (by kernel_rfl) rfl (by assumption) ?_
        simp only [Act.put, List.setIfInBounds_toArray, List.set_cons_zero, List.set_cons_succ]
        refine takeNot 5 64 rfl rfl (by kernel_rfl) (by kernel_rfl) (by kernel_rfl) rfl (by assumption) ?_
        simp only [Act.put, List.setIfInBounds_toArray, List.set_cons_zero, List.set_cons_succ]
        refine takeNot 6 65 rfl rfl (by kernel_rfl) (by kernel_rfl) (by kernel_rfl) rfl (by assumption) ?_
        simp only [Act.put, List.setIfInBounds_toArray, List.set_cons_zero, List.set_cons_succ]
        refine onlyNot 3 62 rfl rfl (by kernel_rfl) rfl ?_ (.inr (by assumption))
        simp only [Act.put, List.setIfInBounds_toArray, List.set_cons_zero, List.set_cons_succ]
        refine onlyNot 7 66 rfl rfl (by kernel_rfl) rfl ?_ (.inr (by assumption))
        simp only [Act.put, List.setIfInBounds_toArray, List.set_cons_zero, List.set_cons_succ]
        refine take 8 67 (v := .bool false) rfl rfl (by kernel_rfl) (by kernel_rfl) (by kernel_rfl) rfl (fun W hW => rfl) (by assumption) ?_
        simp only [Act.put, List.setIfInBounds_toArray, List.set_cons_zero, List.set_cons_succ]
        refine done (by kernel_rfl) ?_ _
        have HS := Lib.hid hS
        clear hS
        go_wp2
        go_roundw
        case rel => exact ⟨m + 1, by omega, by omega, by omega, by go_num, by rw [want_no hm1 HN.out], Lib.hid (below_trans HI.out (below_trans HW8.out HS.out))⟩
        case measure => simp [intOf]; omega
      · refine plain_region_draws (fun W => Below W8.heap.size W8 W) (by kernel_rfl) (show Below W8.heap.size W8 W8.drew from (Below.refl _ _).drew) (fun hS => ?_)
        refine take 0 59 (v := .bool true) rfl rfl (by kernel_rfl) (by kernel_rfl) (by kernel_rfl) rfl (fun W hW => exec_move rfl rfl) (by assumption) ?_
        simp only [Act.put, List.setIfInBounds_toArray, List.set_cons_zero, List.set_cons_succ]
        refine take 1 60 (v := .bool true) rfl rfl (by kernel_rfl) (by kernel_rfl) (by kernel_rfl) rfl (fun W hW => exec_move rfl rfl) (by assumption) ?_
        simp only [Act.put, List.setIfInBounds_toArray, List.set_cons_zero, List.set_cons_succ]
        refine take 2 61 (v := .int .u64 (v0 : Int)) rfl rfl (by kernel_rfl) (by kernel_rfl) (by kernel_rfl) rfl (fun W hW => exec_move rfl rfl) (by assumption) ?_
        simp only [Act.put, List.setIfInBounds_toArray, List.set_cons_zero, List.set_cons_succ]
        refine take 4 63 (v := .slice p b.length c) rfl rfl (by kernel_rfl) (by kernel_rfl) (by kernel_rfl) rfl (fun W hW => exec_move rfl rfl) (by assumption) ?_
        simp only [Act.put, List.setIfInBounds_toArray, List.set_cons_zero, List.set_cons_succ]
        refine take 5 64 (v := .int .i64 (m : Int)) rfl rfl (by kernel_rfl) (by kernel_rfl) (by kernel_rfl) rfl (fun W hW => exec_move rfl rfl) (by assumption) ?_
        simp only [Act.put, List.setIfInBounds_toArray, List.set_cons_zero, List.set_cons_succ]
        refine take 6 65 (v := .slice a3 (b.take m).length c) rfl rfl (by kernel_rfl) (by kernel_rfl) (by kernel_rfl) rfl (fun W hW => exec_slice rfl rfl rfl rfl rfl (HSL.out W)) (by assumption) ?_
        simp only [Act.put, List.setIfInBounds_toArray, List.set_cons_zero, List.set_cons_succ]
        refine onlyCall 3 62 rfl rfl (by kernel_rfl) rfl (exec_call [.int .u64 (v0 : Int)] rfl rfl Tryd.func10 (by kernel_rfl) (by kernel_rfl)) ?_
        refine (dnumber_any hv0 _).mono ?_
        rintro e W9 ⟨o9, rfl, hB9⟩
        obtain ⟨p9, c9, rfl⟩ := hB9.shape
        have hS9 : Below W8.heap.size W8 W9 := below_trans hS hB9.b
        refine ⟨_, rfl, .inr hS9, ?_⟩
        simp only [Act.put, List.setIfInBounds_toArray, List.set_cons_zero, List.set_cons_succ]
        have hcb := bytes_any hB9.rd (HSL2.out W9 hS9)
        refine onlyCall 7 66 rfl rfl (by kernel_rfl) rfl (exec_call [.slice p9 (numB v0).length c9, .slice a3 (b.take m).length c] rfl rfl Tryd.func9 (by kernel_rfl) (by kernel_rfl)) ?_
        refine hcb.mono ?_
        rintro e W10 ⟨rfl, rfl⟩
        refine ⟨_, rfl, .inr hS9, ?_⟩
        simp only [Act.put, List.setIfInBounds_toArray, List.set_cons_zero, List.set_cons_succ]
        refine take 8 67 (v := .bool (decide (numB v0 = b.take m))) rfl rfl (by kernel_rfl) (by kernel_rfl) (by kernel_rfl) rfl (fun W hW => rfl) (by assumption) ?_
        simp only [Act.put, List.setIfInBounds_toArray, List.set_cons_zero, List.set_cons_succ]
        refine done (by kernel_rfl) ?_ _
        have HS := Lib.hid hS9
        clear hS hS9 hB9 hcb
        clear hcases
        have hq1 : decide (numB v0 = b.take m) = true → numB v0 = b.take m := of_decide_eq_true
        have hq0 : decide (numB v0 = b.take m) = false → ¬ numB v0 = b.take m := of_decide_eq_false
        generalize decide (numB v0 = b.take m) = rb at *
        cases rb
        rotate_left
        · have HW := Lib.hid (HX.out.1.2 ⟨rfl, hq1 rfl⟩)
          have hgv := HX.out.2 HW.out hmb
          obtain ⟨rfl, rfl, rfl⟩ : y = v0 ∧ i0 = m ∧ f0 = 0 := by cases hgv; exact ⟨rfl, rfl, rfl⟩
          clear hgv hq1 hq0
          go_wp2
          go_roundw
          case rel => exact ⟨i0 + 1, by omega, by omega, by omega, by go_num, by rw [want_yes hm1 HW.out], Lib.hid (below_trans HI.out (below_trans HW8.out HS.out))⟩
          case measure => simp [intOf]; omega
        · have HN : Hid (¬ wholeAt b m) := Lib.hid fun h => hq0 rfl (HX.out.1.1 h).2
          clear hq1 hq0
          go_wp2
          go_roundw
          case rel => exact ⟨m + 1, by omega, by omega, by omega, by go_num, by rw [want_no hm1 HN.out], Lib.hid (below_trans HI.out (below_trans HW8.out HS.out))⟩
          case measure => simp [intOf]; omega
    · have hend := want_is b m hm1
      have hs1 := (HB1.out.rd).below (below_trans HBW.out HI.out)
      have HE2 := Lib.hid (HE.out.b (below_trans HW6.out HI.out))
      have HWW := Lib.hid (below_trans HW6.out HI.out)
      have HCB := Lib.hid (fun (W2 : World) (o2 : Value) (g : Buf wr W2 o2 (numB n)) => g)
      have HS1 := Lib.hid hs1
      rcases hend with ⟨hwi, k, k1, k2, k4⟩ | ⟨hwi, hno⟩
      rotate_left
      · have hz := HG.out.1 (fun ⟨k, q1, q2, q3, q4⟩ => hno ⟨k, q1, by omega, q4⟩)
        obtain ⟨rfl, rfl, rfl⟩ : y = 0 ∧ i0 = 0 ∧ f0 = 290 := by cases hz; exact ⟨rfl, rfl, rfl⟩
        clear hz hs1 hno HI
        by_cases hc1 : (m : Int) ≤ (b.length : Int)
        · have hc2 : ¬ (m : Int) ≤ 10 := by omega
          go_wp2_with (first
            | (go_at_call 10; refine (dnumber_any hn _).mono ?_; rintro e W2 ⟨o2, rfl, hB2⟩; obtain ⟨p2, c2, rfl⟩ := hB2.shape; have HB2 := Lib.hid hB2; clear hB2)
            | (go_at_call 9; refine (bytes_any (HS1.out.below HB2.out.b) HB2.out.rd).mono ?_; rintro e W3 ⟨rfl, rfl⟩)
            | (go_at_call 11; refine (num_err _ _).mono ?_; rintro e W4 ⟨rfl, rfl⟩)
            | (go_at_call 5; refine (worksG_any (HE2.out.b HB2.out.b)).mono ?_; rintro e W5 ⟨rfl, hb5⟩; have HB5 := Lib.hid hb5; clear hb5))
          go_ret
          exact ⟨rfl, below_trans (below_trans HWW.out HB2.out.b) HB5.out⟩
        · go_wp2_with (first
            | (go_at_call 10; refine (dnumber_any hn _).mono ?_; rintro e W2 ⟨o2, rfl, hB2⟩; obtain ⟨p2, c2, rfl⟩ := hB2.shape; have HB2 := Lib.hid hB2; clear hB2)
            | (go_at_call 9; refine (bytes_any (HS1.out.below HB2.out.b) HB2.out.rd).mono ?_; rintro e W3 ⟨rfl, rfl⟩)
            | (go_at_call 11; refine (num_err _ _).mono ?_; rintro e W4 ⟨rfl, rfl⟩)
            | (go_at_call 5; refine (worksG_any (HE2.out.b HB2.out.b)).mono ?_; rintro e W5 ⟨rfl, hb5⟩; have HB5 := Lib.hid hb5; clear hb5))
          go_ret
          exact ⟨rfl, below_trans (below_trans HWW.out HB2.out.b) HB5.out⟩
      · have hz := HG.out.2 k k4 (by omega)
        obtain rfl : f0 = 0 := by cases hz; rfl
        clear hz hs1 HI k4
        by_cases hc1 : (m : Int) ≤ (b.length : Int)
        · have hc2 : ¬ (m : Int) ≤ 10 := by omega
          go_wp2_with (first
            | (go_at_call 10; refine (dnumber_any hn _).mono ?_; rintro e W2 ⟨o2, rfl, hB2⟩; obtain ⟨p2, c2, rfl⟩ := hB2.shape; have HB2 := Lib.hid hB2; clear hB2)
            | (go_at_call 9; refine (bytes_any (HS1.out.below HB2.out.b) HB2.out.rd).mono ?_; rintro e W3 ⟨rfl, rfl⟩)
            | (go_at_call 11; refine (num_err _ _).mono ?_; rintro e W4 ⟨rfl, rfl⟩)
            | (go_at_call 5; refine (worksG_any (HE2.out.b HB2.out.b)).mono ?_; rintro e W5 ⟨rfl, hb5⟩; have HB5 := Lib.hid hb5; clear hb5))
          go_ret
          exact ⟨rfl, below_trans (below_trans HWW.out HB2.out.b) HB5.out⟩
        · go_wp2_with (first
            | (go_at_call 10; refine (dnumber_any hn _).mono ?_; rintro e W2 ⟨o2, rfl, hB2⟩; obtain ⟨p2, c2, rfl⟩ := hB2.shape; have HB2 := Lib.hid hB2; clear hB2)
            | (go_at_call 9; refine (bytes_any (HS1.out.below HB2.out.b) HB2.out.rd).mono ?_; rintro e W3 ⟨rfl, rfl⟩)
            | (go_at_call 11; refine (num_err _ _).mono ?_; rintro e W4 ⟨rfl, rfl⟩)
            | (go_at_call 5; refine (worksG_any (HE2.out.b HB2.out.b)).mono ?_; rintro e W5 ⟨rfl, hb5⟩; have HB5 := Lib.hid hb5; clear hb5))
          go_ret
          exact ⟨rfl, below_trans (below_trans HWW.out HB2.out.b) HB5.out⟩
end Go.Proofs.YthdfedfholmbmaaDoor
