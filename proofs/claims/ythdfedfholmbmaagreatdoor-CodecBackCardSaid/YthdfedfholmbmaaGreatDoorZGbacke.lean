/- Texts that the proof shares (each declaration is a lemma of this layer). -/
import Derived.Test.YthdfedfholmbmaaGreatDoorZGbacka
import Derived.Test.YthdfedfholmbmaaGreatDoorZGbackb
import Derived.Test.YthdfedfholmbmaaGreatDoorZGbackc
import Derived.Test.YthdfedfholmbmaaGreatDoorZGbackd
import Derived.Recover
import Derived.Lib.Replace
import Derived.Lib.SplitLaws
set_option linter.unusedSimpArgs false
set_option linter.unusedVariables false
set_option maxRecDepth 100000
set_option maxHeartbeats 64000000
namespace Go.Proofs.YthdfedfholmbmaaGreatDoor
open Go.RowKit
section
variable {P : Program} {ops : Array Oper} {rest : List Oper} {Q : Exit → Act → World → Prop} {a : Act} {w w' : World} {dst : Option Tmp} {ty : TypeId} {pos : String} {af : Array Edge} {t : TypeId} {x y : Operand} {v : Value}
theorem op_loadG {b : Addr} {g : Nat × Bool} (hr : (loadVar t b).run P w = .ok v w) (hx : a.eval x = .pointer (some b)) (hw : Region.wanted (⟨dst, .load t x, ty, pos, af, some g⟩ : Oper) (yielded ops a.tmps) = true) (h : wpList P ops Q rest (a.put dst v) w) : wpList P ops Q (⟨dst, .load t x, ty, pos, af, some g⟩ :: rest) a w := wpList_runG hw (exec_load rfl hx hr) h
theorem results_cells2 {fn : Func} {p q : Tmp} {tz : TypeId} (h : fn.results = #[.cell p t, .cell q tz]) (tmps : Array Value) (w : World) (ad ad2 : Addr) (v v2 : Value)
    (hp : tmps.getD p undef = .pointer (some ad)) (hq : tmps.getD q undef = .pointer (some ad2)) (hl : (loadVar t ad).run P w = .ok v w) (hl2 : (loadVar tz ad2).run P w = .ok v2 w) : (results fn tmps).run P w = .ok (.tuple #[v, v2]) w := by
  have hp' : tmps[p]?.getD undef = .pointer (some ad) := by simpa using hp
  have hq' : tmps[q]?.getD undef = .pointer (some ad2) := by simpa using hq
  simp [results, h, hp', hq', asAddr, hl, hl2]
end
def mk1 (c : Array Value) : Value := c.getD 0 undef
structure VT (T : TypeId) (K : Nat) (mk : Array Value → Value) : Prop where
  put : ∀ {W : World} {g : Nat} {z c : Array Value}, c.size = K → (∀ u ∈ c.toList, u.oneCell' = true) → W.heap[g]? = some (.cells z T (0, 0)) → z.size = K → (storeVar T ⟨g, 0, none⟩ (mk c)).run Tryz.prog W = .ok () (W.setRow g c)
  get : ∀ {W : World} {g : Nat} {c : Array Value}, c.size = K → W.heap[g]? = some (.cells c T (0, 0)) → (loadVar T ⟨g, 0, none⟩).run Tryz.prog W = .ok (mk c) W
theorem VT.of {T : TypeId} {K : Nat} (h : StT Tryz.prog T K) : VT T K .agg := ⟨fun h1 h2 h3 h4 => h.put h1 h2 h3 h4, fun h1 h2 => h.get h1 h2⟩
theorem VT.one {T : TypeId} {d : TypeDesc} (hu : Tryz.prog.underlying T = some d) (hd : isAggD d = false) (hi : (Tryz.prog.info? T).map (·.size) = some 1) : VT T 1 mk1 := by
  refine ⟨fun {W g z c} h1 h2 h3 h4 => ?_, fun {W g c} h1 h2 => ?_⟩
  · obtain ⟨u, rfl⟩ : ∃ u, c = #[u] := by
      rcases c with ⟨l⟩
      match l, h1 with
      | [u], _ => exact ⟨u, rfl⟩
    have h1u : u.oneCell' = true := h2 u (by simp)
    have hc : u.cells = #[u] := by cases u <;> first | rfl | (simp [Value.oneCell'] at h1u)
    have hr := run_storeVar_row (P := Tryz.prog) W g T T z #[u] h3 hi (by simpa using h4) (by simp [h1u])
    have e : storeVar T ⟨g, 0, none⟩ (.agg #[u]) = storeVar T ⟨g, 0, none⟩ u := by unfold storeVar; rw [hc]; rfl
    rw [e] at hr
    exact hr
  · obtain ⟨u, rfl⟩ : ∃ u, c = #[u] := by
      rcases c with ⟨l⟩
      match l, h1 with
      | [u], _ => exact ⟨u, rfl⟩
    exact run_load1 hu (by revert hd; cases d <;> simp [isAggD]) (cellOf (o := 0) h2 rfl)
theorem vt_graph : VT 25 4 .agg := .of st_graph
theorem vt_val : VT 48 6 .agg := .of st_val
theorem vt_u64 : VT 79 1 mk1 := .one Tryz.underlying79 rfl (by kernel_rfl)
theorem vt_errno : VT 29 1 mk1 := .one Tryz.underlying29 rfl (by kernel_rfl)
section
variable {α : Type} {d : Dec α} {ok : α → Bool} {b s : List UInt8} {x : α}
theorem readW_none (h : d b = none) : readW d ok b = none := by unfold readW; rw [h]
theorem readW_left (h : d b = some (x, s)) (hs : s ≠ []) : readW d ok b = none := by
  unfold readW; rw [h]
  cases s with
  | nil => exact absurd rfl hs
  | cons => rfl
theorem readW_no (h : d b = some (x, [])) (hx : ok x = false) : readW d ok b = none := by unfold readW; rw [h]; simp [hx]
theorem readW_yes (h : d b = some (x, [])) (hx : ok x = true) : readW d ok b = some x := by unfold readW; rw [h]; simp [hx]
end
def ReadPost {α : Type} (w W : World) (X : Nat → Prop) (mk : Array Value → Value) (z : Array Value) (OK : World → α → Array Value → Prop) (Jn : World → Prop) (fails : Prop) (r : Option α) (e : Ending) (W' : World) : Prop :=
  Below w.heap.size w W' ∧ W.heap.size ≤ W'.heap.size ∧ (∀ b, b < W.heap.size → ¬ X b → W'.heap[b]? = W.heap[b]?) ∧ match r with
    | some x => ∃ cs, e = .returned (.tuple #[mk cs, .int .i64 0]) ∧ OK W' x cs ∧ Jn W'
    | none => e = .returned (.tuple #[mk z, .int .i64 290]) ∧ (fails → ∀ b, X b → W'.heap[b]? = W.heap[b]?)
theorem idleG (p q : Addr) (w : World) :
    CallsD Tryz.prog 104 #[.pointer (some p), .pointer (some q)] .returning w fun e u' w' => e = .returned (.tuple #[]) ∧ u' = .returning ∧ w' = w := by
  have hnil : ∀ w : World, (binOp BinOp.eql 20 .nilIface .nilIface).run Tryz.prog w = .ok (.bool true) w := fun _ => by kernel_rfl
  refine callsD_of_wpS Tryz.func104 rfl fun c₀ cs hu => ?_
  apply wpS_seq
  apply wpS_region
  simp [wpOpsS, go_sem, recoverD, hu, Tryz.ntmps104, Exit.thenS]
  have e : (#[.pointer (some p), .pointer (some q)] ++ (Array.replicate 11 undef).setIfInBounds 4 Value.nilIface : Array Value) = #[.pointer (some p), .pointer (some q), undef, undef, undef, undef, .nilIface, undef, undef, undef, undef, undef, undef] := rfl
  rw [e]
  clear e
  refine wpS_of_wp ?_
  have HU := Lib.hid hu
  clear hu
  go_wp2
  refine ⟨rfl, .returning, ?_, _, results_none rfl _ _ _, rfl, rfl, rfl⟩
  have hu := HU.out
  cases c₀
  simp_all
theorem caughtG {w : World} {P Q : Nat} {z : Array Value} {n : Int} (hp : w.heap[P]? = some (.cells z 25 (0, 0))) (hz : z.size = 4) (hq : w.heap[Q]? = some (.cells #[.int .i64 n] 29 (0, 0))) (hne : P ≠ Q) :
    CallsD Tryz.prog 104 #[.pointer (some ⟨P, 0, none⟩), .pointer (some ⟨Q, 0, none⟩)] (.panicking [{ v := badV, recovered := false }]) w fun e u' w' =>
      e = .returned (.tuple #[]) ∧ u' = .panicking [{ v := badV, recovered := true }] ∧ w'.heap[P]? = some (.cells #[.slice none 0 0, .slice none 0 0, .int .i64 0, .int .i64 0] 25 (0, 0)) ∧ w'.heap[Q]? = some (.cells #[.int .i64 290] 29 (0, 0)) ∧ Touch (fun x => x = P ∨ x = Q) w w' := by
  have hnil : ∀ w : World, (binOp BinOp.eql 20 badV .nilIface).run Tryz.prog w = .ok (.bool false) w := fun _ => by rfl
  have hta : ∀ w : World, (Instr.typeAssert badV 20 154 true).run Tryz.prog w = .ok (.tuple #[.agg #[], .bool true]) w := fun _ => by rfl
  have hB : Below w.heap.size w ((w.alloc (.cells #[] 154)).alloc (.cells #[.slice none 0 0, .slice none 0 0, .int .i64 0, .int .i64 0] 25)) := (below_new _).alloc (by simp) _
  have hlp := (Array.getElem?_eq_some_iff.1 hp).1
  have hlq := (Array.getElem?_eq_some_iff.1 hq).1
  have hp1 := belowBlk hB hlp hp
  have hq1 := belowBlk hB hlq hq
  have h4 : ((w.alloc (.cells #[] 154)).alloc (.cells #[.slice none 0 0, .slice none 0 0, .int .i64 0, .int .i64 0] 25)).heap[w.heap.size + 1]? = some (.cells #[.slice none 0 0, .slice none 0 0, .int .i64 0, .int .i64 0] 25 (0, 0)) := by
    simp only [heap_get_alloc, World.size_alloc]; rw [if_pos trivial]
  have hT1 : Touch (fun x => x = P ∨ x = Q) w ((w.alloc (.cells #[] 154)).alloc (.cells #[.slice none 0 0, .slice none 0 0, .int .i64 0, .int .i64 0] 25)) := ((Touch.refl _ _).alloc _).alloc _
  have HL := Lib.hid (vt_graph.get (c := #[.slice none 0 0, .slice none 0 0, .int .i64 0, .int .i64 0]) rfl h4)
  have HS := Lib.hid (vt_graph.put (c := #[.slice none 0 0, .slice none 0 0, .int .i64 0, .int .i64 0]) rfl (by simp [Value.oneCell']) hp1 hz)
  generalize hWa : (w.alloc (.cells #[] 154)).alloc (.cells #[.slice none 0 0, .slice none 0 0, .int .i64 0, .int .i64 0] 25) = Wa at *
  have hq2 := (setRow_other Wa P Q #[.slice none 0 0, .slice none 0 0, .int .i64 0, .int .i64 0] (fun e => hne e.symm)).trans hq1
  have hp2 := setRow_heap Wa P z #[.slice none 0 0, .slice none 0 0, .int .i64 0, .int .i64 0] _ _ hp1
  have hT2 : Touch (fun x => x = P ∨ x = Q) w (Wa.setRow P #[.slice none 0 0, .slice none 0 0, .int .i64 0, .int .i64 0]) := by
    have hs : (Wa.setRow P #[.slice none 0 0, .slice none 0 0, .int .i64 0, .int .i64 0]).heap.size = Wa.heap.size := by simp
    exact hT1.step (show Touch (fun x => x = P) Wa (Wa.setRow P #[.slice none 0 0, .slice none 0 0, .int .i64 0, .int .i64 0]) from ⟨rfl, rfl, rfl, by rw [hs]; exact Nat.le_refl _, fun b _ hb => setRow_other Wa P b #[.slice none 0 0, .slice none 0 0, .int .i64 0, .int .i64 0] hb⟩) (fun x _ h => .inl h)
  have HE := Lib.hid (vt_errno.put (c := #[.int .i64 290]) rfl (by simp [Value.oneCell']) hq2 rfl)
  have hp3 := (setRow_other (Wa.setRow P #[.slice none 0 0, .slice none 0 0, .int .i64 0, .int .i64 0]) Q P #[.int .i64 290] hne).trans hp2
  have hq3 := setRow_heap (Wa.setRow P #[.slice none 0 0, .slice none 0 0, .int .i64 0, .int .i64 0]) Q _ #[.int .i64 290] _ _ hq2
  have hT3 : Touch (fun x => x = P ∨ x = Q) w ((Wa.setRow P #[.slice none 0 0, .slice none 0 0, .int .i64 0, .int .i64 0]).setRow Q #[.int .i64 290]) := by
    have hs : ((Wa.setRow P #[.slice none 0 0, .slice none 0 0, .int .i64 0, .int .i64 0]).setRow Q #[.int .i64 290]).heap.size = (Wa.setRow P #[.slice none 0 0, .slice none 0 0, .int .i64 0, .int .i64 0]).heap.size := by simp
    exact hT2.step (show Touch (fun x => x = Q) (Wa.setRow P #[.slice none 0 0, .slice none 0 0, .int .i64 0, .int .i64 0]) ((Wa.setRow P #[.slice none 0 0, .slice none 0 0, .int .i64 0, .int .i64 0]).setRow Q #[.int .i64 290]) from ⟨rfl, rfl, rfl, by rw [hs]; exact Nat.le_refl _, fun b _ hb => setRow_other _ Q b _ hb⟩) (fun x _ h => .inr h)
  have HF := Lib.hid (And.intro hp3 (And.intro hq3 hT3))
  clear hB hp1 hq1 h4 hT1 hq2 hp2 hT2 hp3 hq3 hT3
  refine callsD_of_wpS Tryz.func104 rfl fun c₀ cs hu => ?_
  apply wpS_seq
  apply wpS_region
  simp [wpOpsS, go_sem, recoverD, hu, Tryz.ntmps104, Exit.thenS]
  have e : (#[.pointer (some ⟨P, 0, none⟩), .pointer (some ⟨Q, 0, none⟩)] ++ (Array.replicate 11 undef).setIfInBounds 4 badV : Array Value) = #[.pointer (some ⟨P, 0, none⟩), .pointer (some ⟨Q, 0, none⟩), undef, undef, undef, undef, badV, undef, undef, undef, undef, undef, undef] := rfl
  rw [e]
  clear e
  refine wpS_of_wp ?_
  have HU := Lib.hid hu
  clear hu
  go_wp2_with (first
    | ((with_reducible apply op_load); exact HL.out; exact rfl)
    | ((with_reducible apply op_store); exact HS.out; exact rfl; exact rfl)
    | ((with_reducible apply op_store); exact HE.out; exact rfl; exact rfl))
  refine ⟨rfl, .panicking [{ v := badV, recovered := true }], ?_, _, results_none rfl _ _ _, rfl, rfl, HF.out⟩
  rfl
theorem idleV (p q : Addr) (w : World) :
    CallsD Tryz.prog 121 #[.pointer (some p), .pointer (some q)] .returning w fun e u' w' => e = .returned (.tuple #[]) ∧ u' = .returning ∧ w' = w := by
  have hnil : ∀ w : World, (binOp BinOp.eql 20 .nilIface .nilIface).run Tryz.prog w = .ok (.bool true) w := fun _ => by kernel_rfl
  refine callsD_of_wpS Tryz.func121 rfl fun c₀ cs hu => ?_
  apply wpS_seq
  apply wpS_region
  simp [wpOpsS, go_sem, recoverD, hu, Tryz.ntmps121, Exit.thenS]
  have e : (#[.pointer (some p), .pointer (some q)] ++ (Array.replicate 11 undef).setIfInBounds 4 Value.nilIface : Array Value) = #[.pointer (some p), .pointer (some q), undef, undef, undef, undef, .nilIface, undef, undef, undef, undef, undef, undef] := rfl
  rw [e]
  clear e
  refine wpS_of_wp ?_
  have HU := Lib.hid hu
  clear hu
  go_wp2
  refine ⟨rfl, .returning, ?_, _, results_none rfl _ _ _, rfl, rfl, rfl⟩
  have hu := HU.out
  cases c₀
  simp_all
theorem caughtV {w : World} {P Q : Nat} {z : Array Value} {n : Int} (hp : w.heap[P]? = some (.cells z 48 (0, 0))) (hz : z.size = 6) (hq : w.heap[Q]? = some (.cells #[.int .i64 n] 29 (0, 0))) (hne : P ≠ Q) :
    CallsD Tryz.prog 121 #[.pointer (some ⟨P, 0, none⟩), .pointer (some ⟨Q, 0, none⟩)] (.panicking [{ v := badV, recovered := false }]) w fun e u' w' =>
      e = .returned (.tuple #[]) ∧ u' = .panicking [{ v := badV, recovered := true }] ∧ w'.heap[P]? = some (.cells #[.int .i64 0, .bool false, .int .i64 0, .string ⟨#[]⟩, .slice none 0 0, .slice none 0 0] 48 (0, 0)) ∧ w'.heap[Q]? = some (.cells #[.int .i64 290] 29 (0, 0)) ∧ Touch (fun x => x = P ∨ x = Q) w w' := by
  have hnil : ∀ w : World, (binOp BinOp.eql 20 badV .nilIface).run Tryz.prog w = .ok (.bool false) w := fun _ => by rfl
  have hta : ∀ w : World, (Instr.typeAssert badV 20 154 true).run Tryz.prog w = .ok (.tuple #[.agg #[], .bool true]) w := fun _ => by rfl
  have hB : Below w.heap.size w ((w.alloc (.cells #[] 154)).alloc (.cells #[.int .i64 0, .bool false, .int .i64 0, .string ⟨#[]⟩, .slice none 0 0, .slice none 0 0] 48)) := (below_new _).alloc (by simp) _
  have hlp := (Array.getElem?_eq_some_iff.1 hp).1
  have hlq := (Array.getElem?_eq_some_iff.1 hq).1
  have hp1 := belowBlk hB hlp hp
  have hq1 := belowBlk hB hlq hq
  have h4 : ((w.alloc (.cells #[] 154)).alloc (.cells #[.int .i64 0, .bool false, .int .i64 0, .string ⟨#[]⟩, .slice none 0 0, .slice none 0 0] 48)).heap[w.heap.size + 1]? = some (.cells #[.int .i64 0, .bool false, .int .i64 0, .string ⟨#[]⟩, .slice none 0 0, .slice none 0 0] 48 (0, 0)) := by
    simp only [heap_get_alloc, World.size_alloc]; rw [if_pos trivial]
  have hT1 : Touch (fun x => x = P ∨ x = Q) w ((w.alloc (.cells #[] 154)).alloc (.cells #[.int .i64 0, .bool false, .int .i64 0, .string ⟨#[]⟩, .slice none 0 0, .slice none 0 0] 48)) := ((Touch.refl _ _).alloc _).alloc _
  have HL := Lib.hid (vt_val.get (c := #[.int .i64 0, .bool false, .int .i64 0, .string ⟨#[]⟩, .slice none 0 0, .slice none 0 0]) rfl h4)
  have HS := Lib.hid (vt_val.put (c := #[.int .i64 0, .bool false, .int .i64 0, .string ⟨#[]⟩, .slice none 0 0, .slice none 0 0]) rfl (by simp [Value.oneCell']) hp1 hz)
  generalize hWa : (w.alloc (.cells #[] 154)).alloc (.cells #[.int .i64 0, .bool false, .int .i64 0, .string ⟨#[]⟩, .slice none 0 0, .slice none 0 0] 48) = Wa at *
  have hq2 := (setRow_other Wa P Q #[.int .i64 0, .bool false, .int .i64 0, .string ⟨#[]⟩, .slice none 0 0, .slice none 0 0] (fun e => hne e.symm)).trans hq1
  have hp2 := setRow_heap Wa P z #[.int .i64 0, .bool false, .int .i64 0, .string ⟨#[]⟩, .slice none 0 0, .slice none 0 0] _ _ hp1
  have hT2 : Touch (fun x => x = P ∨ x = Q) w (Wa.setRow P #[.int .i64 0, .bool false, .int .i64 0, .string ⟨#[]⟩, .slice none 0 0, .slice none 0 0]) := by
    have hs : (Wa.setRow P #[.int .i64 0, .bool false, .int .i64 0, .string ⟨#[]⟩, .slice none 0 0, .slice none 0 0]).heap.size = Wa.heap.size := by simp
    exact hT1.step (show Touch (fun x => x = P) Wa (Wa.setRow P #[.int .i64 0, .bool false, .int .i64 0, .string ⟨#[]⟩, .slice none 0 0, .slice none 0 0]) from ⟨rfl, rfl, rfl, by rw [hs]; exact Nat.le_refl _, fun b _ hb => setRow_other Wa P b #[.int .i64 0, .bool false, .int .i64 0, .string ⟨#[]⟩, .slice none 0 0, .slice none 0 0] hb⟩) (fun x _ h => .inl h)
  have HE := Lib.hid (vt_errno.put (c := #[.int .i64 290]) rfl (by simp [Value.oneCell']) hq2 rfl)
  have hp3 := (setRow_other (Wa.setRow P #[.int .i64 0, .bool false, .int .i64 0, .string ⟨#[]⟩, .slice none 0 0, .slice none 0 0]) Q P #[.int .i64 290] hne).trans hp2
  have hq3 := setRow_heap (Wa.setRow P #[.int .i64 0, .bool false, .int .i64 0, .string ⟨#[]⟩, .slice none 0 0, .slice none 0 0]) Q _ #[.int .i64 290] _ _ hq2
  have hT3 : Touch (fun x => x = P ∨ x = Q) w ((Wa.setRow P #[.int .i64 0, .bool false, .int .i64 0, .string ⟨#[]⟩, .slice none 0 0, .slice none 0 0]).setRow Q #[.int .i64 290]) := by
    have hs : ((Wa.setRow P #[.int .i64 0, .bool false, .int .i64 0, .string ⟨#[]⟩, .slice none 0 0, .slice none 0 0]).setRow Q #[.int .i64 290]).heap.size = (Wa.setRow P #[.int .i64 0, .bool false, .int .i64 0, .string ⟨#[]⟩, .slice none 0 0, .slice none 0 0]).heap.size := by simp
    exact hT2.step (show Touch (fun x => x = Q) (Wa.setRow P #[.int .i64 0, .bool false, .int .i64 0, .string ⟨#[]⟩, .slice none 0 0, .slice none 0 0]) ((Wa.setRow P #[.int .i64 0, .bool false, .int .i64 0, .string ⟨#[]⟩, .slice none 0 0, .slice none 0 0]).setRow Q #[.int .i64 290]) from ⟨rfl, rfl, rfl, by rw [hs]; exact Nat.le_refl _, fun b _ hb => setRow_other _ Q b _ hb⟩) (fun x _ h => .inr h)
  have HF := Lib.hid (And.intro hp3 (And.intro hq3 hT3))
  clear hB hp1 hq1 h4 hT1 hq2 hp2 hT2 hp3 hq3 hT3
  refine callsD_of_wpS Tryz.func121 rfl fun c₀ cs hu => ?_
  apply wpS_seq
  apply wpS_region
  simp [wpOpsS, go_sem, recoverD, hu, Tryz.ntmps121, Exit.thenS]
  have e : (#[.pointer (some ⟨P, 0, none⟩), .pointer (some ⟨Q, 0, none⟩)] ++ (Array.replicate 11 undef).setIfInBounds 4 badV : Array Value) = #[.pointer (some ⟨P, 0, none⟩), .pointer (some ⟨Q, 0, none⟩), undef, undef, undef, undef, badV, undef, undef, undef, undef, undef, undef] := rfl
  rw [e]
  clear e
  refine wpS_of_wp ?_
  have HU := Lib.hid hu
  clear hu
  go_wp2_with (first
    | ((with_reducible apply op_load); exact HL.out; exact rfl)
    | ((with_reducible apply op_store); exact HS.out; exact rfl; exact rfl)
    | ((with_reducible apply op_store); exact HE.out; exact rfl; exact rfl))
  refine ⟨rfl, .panicking [{ v := badV, recovered := true }], ?_, _, results_none rfl _ _ _, rfl, rfl, HF.out⟩
  rfl
theorem idleN (p q : Addr) (w : World) :
    CallsD Tryz.prog 139 #[.pointer (some p), .pointer (some q)] .returning w fun e u' w' => e = .returned (.tuple #[]) ∧ u' = .returning ∧ w' = w := by
  have hnil : ∀ w : World, (binOp BinOp.eql 20 .nilIface .nilIface).run Tryz.prog w = .ok (.bool true) w := fun _ => by kernel_rfl
  refine callsD_of_wpS Tryz.func139 rfl fun c₀ cs hu => ?_
  apply wpS_seq
  apply wpS_region
  simp [wpOpsS, go_sem, recoverD, hu, Tryz.ntmps139, Exit.thenS]
  have e : (#[.pointer (some p), .pointer (some q)] ++ (Array.replicate 11 undef).setIfInBounds 4 Value.nilIface : Array Value) = #[.pointer (some p), .pointer (some q), undef, undef, undef, undef, .nilIface, undef, undef, undef, undef, undef, undef] := rfl
  rw [e]
  clear e
  refine wpS_of_wp ?_
  have HU := Lib.hid hu
  clear hu
  go_wp2
  refine ⟨rfl, .returning, ?_, _, results_none rfl _ _ _, rfl, rfl, rfl⟩
  have hu := HU.out
  cases c₀
  simp_all
theorem caughtN {w : World} {P Q : Nat} {z : Array Value} {n : Int} (hp : w.heap[P]? = some (.cells z 79 (0, 0))) (hz : z.size = 1) (hq : w.heap[Q]? = some (.cells #[.int .i64 n] 29 (0, 0))) (hne : P ≠ Q) :
    CallsD Tryz.prog 139 #[.pointer (some ⟨P, 0, none⟩), .pointer (some ⟨Q, 0, none⟩)] (.panicking [{ v := badV, recovered := false }]) w fun e u' w' =>
      e = .returned (.tuple #[]) ∧ u' = .panicking [{ v := badV, recovered := true }] ∧ w'.heap[P]? = some (.cells #[.int .u64 0] 79 (0, 0)) ∧ w'.heap[Q]? = some (.cells #[.int .i64 290] 29 (0, 0)) ∧ Touch (fun x => x = P ∨ x = Q) w w' := by
  have hnil : ∀ w : World, (binOp BinOp.eql 20 badV .nilIface).run Tryz.prog w = .ok (.bool false) w := fun _ => by rfl
  have hta : ∀ w : World, (Instr.typeAssert badV 20 154 true).run Tryz.prog w = .ok (.tuple #[.agg #[], .bool true]) w := fun _ => by rfl
  have hB : Below w.heap.size w (w.alloc (.cells #[] 154)) := below_new _
  have hlp := (Array.getElem?_eq_some_iff.1 hp).1
  have hlq := (Array.getElem?_eq_some_iff.1 hq).1
  have hp1 := belowBlk hB hlp hp
  have hq1 := belowBlk hB hlq hq
  have hT1 : Touch (fun x => x = P ∨ x = Q) w (w.alloc (.cells #[] 154)) := (Touch.refl _ _).alloc _
  have HS := Lib.hid (vt_u64.put (c := #[.int .u64 0]) rfl (by simp [Value.oneCell']) hp1 hz)
  generalize hWa : w.alloc (.cells #[] 154) = Wa at *
  have hq2 := (setRow_other Wa P Q #[.int .u64 0] (fun e => hne e.symm)).trans hq1
  have hp2 := setRow_heap Wa P z #[.int .u64 0] _ _ hp1
  have hT2 : Touch (fun x => x = P ∨ x = Q) w (Wa.setRow P #[.int .u64 0]) := by
    have hs : (Wa.setRow P #[.int .u64 0]).heap.size = Wa.heap.size := by simp
    exact hT1.step (show Touch (fun x => x = P) Wa (Wa.setRow P #[.int .u64 0]) from ⟨rfl, rfl, rfl, by rw [hs]; exact Nat.le_refl _, fun b _ hb => setRow_other Wa P b #[.int .u64 0] hb⟩) (fun x _ h => .inl h)
  have HE := Lib.hid (vt_errno.put (c := #[.int .i64 290]) rfl (by simp [Value.oneCell']) hq2 rfl)
  have hp3 := (setRow_other (Wa.setRow P #[.int .u64 0]) Q P #[.int .i64 290] hne).trans hp2
  have hq3 := setRow_heap (Wa.setRow P #[.int .u64 0]) Q _ #[.int .i64 290] _ _ hq2
  have hT3 : Touch (fun x => x = P ∨ x = Q) w ((Wa.setRow P #[.int .u64 0]).setRow Q #[.int .i64 290]) := by
    have hs : ((Wa.setRow P #[.int .u64 0]).setRow Q #[.int .i64 290]).heap.size = (Wa.setRow P #[.int .u64 0]).heap.size := by simp
    exact hT2.step (show Touch (fun x => x = Q) (Wa.setRow P #[.int .u64 0]) ((Wa.setRow P #[.int .u64 0]).setRow Q #[.int .i64 290]) from ⟨rfl, rfl, rfl, by rw [hs]; exact Nat.le_refl _, fun b _ hb => setRow_other _ Q b _ hb⟩) (fun x _ h => .inr h)
  have HF := Lib.hid (And.intro hp3 (And.intro hq3 hT3))
  clear hB hp1 hq1 hT1 hq2 hp2 hT2 hp3 hq3 hT3
  refine callsD_of_wpS Tryz.func139 rfl fun c₀ cs hu => ?_
  apply wpS_seq
  apply wpS_region
  simp [wpOpsS, go_sem, recoverD, hu, Tryz.ntmps139, Exit.thenS]
  have e : (#[.pointer (some ⟨P, 0, none⟩), .pointer (some ⟨Q, 0, none⟩)] ++ (Array.replicate 11 undef).setIfInBounds 4 badV : Array Value) = #[.pointer (some ⟨P, 0, none⟩), .pointer (some ⟨Q, 0, none⟩), undef, undef, undef, undef, badV, undef, undef, undef, undef, undef, undef] := rfl
  rw [e]
  clear e
  refine wpS_of_wp ?_
  have HU := Lib.hid hu
  clear hu
  go_wp2_with (first
    | ((with_reducible apply op_store); exact HS.out; exact rfl; exact rfl)
    | ((with_reducible apply op_store); exact HE.out; exact rfl; exact rfl))
  refine ⟨rfl, .panicking [{ v := badV, recovered := true }], ?_, _, results_none rfl _ _ _, rfl, rfl, HF.out⟩
  rfl
end Go.Proofs.YthdfedfholmbmaaGreatDoor

namespace Go.Proofs.YthdfedfholmbmaaGreatDoor
open Go.RowKit
structure RdMid {α : Type} (TY : TypeId) (w W : World) (X : Nat → Prop) (OK : World → α → Array Value → Prop) (Jn : World → Prop) (x : α) (cs : Array Value) (W3 : World) : Prop where
  size : W.heap.size + 3 ≤ W3.heap.size
  b : Below w.heap.size w W3
  keep : ∀ b, b < W.heap.size → ¬ X b → W3.heap[b]? = W.heap[b]?
  q6 : W3.heap[W.heap.size]? = some (.cells cs TY (0, 0))
  q7 : W3.heap[W.heap.size + 1]? = some (.cells #[.int .i64 0] 29 (0, 0))
  ok : OK W3 x cs
  jn : Jn W3
section
variable {α : Type} {TY : TypeId} {w W W2 W3 W4 : World} {X : Nat → Prop} {OK : World → α → Array Value → Prop} {Jn : World → Prop} {x : α} {cs cz z : Array Value} {mk : Array Value → Value} {fails : Prop} {r : Option α}
theorem RdMid.step (h : RdMid TY w W X OK Jn x cs W3) (hw : w.heap.size ≤ W.heap.size) (hOKk : ∀ (W1 W2 : World) x cs, OK W1 x cs → (∀ b, W.heap.size + 3 ≤ b → b < W1.heap.size → W2.heap[b]? = W1.heap[b]?) → OK W2 x cs) (hJn : ∀ W1 W2 : World, Jn W1 → (∀ b, b < W.heap.size → W2.heap[b]? = W1.heap[b]?) → Jn W2)
    (g : Touch (fun b => b = W.heap.size ∨ b = W.heap.size + 1) W3 W4) (q6 : W4.heap[W.heap.size]? = some (.cells cs TY (0, 0))) (q7 : W4.heap[W.heap.size + 1]? = some (.cells #[.int .i64 0] 29 (0, 0))) : RdMid TY w W X OK Jn x cs W4 :=
  ⟨Nat.le_trans h.size g.size, g.below h.b (fun b hb he => by omega) (by have := h.size; omega),
    fun b hb hx => (g.block b (by have := h.size; omega) (by omega)).trans (h.keep b hb hx), q6, q7,
    hOKk _ _ _ _ h.ok fun b h1 h2 => g.block b h2 (by omega), hJn _ _ h.jn fun b hb => g.block b (by have := h.size; omega) (by omega)⟩
theorem RdMid.below (h : RdMid TY w W X OK Jn x cs W3) (hw : w.heap.size ≤ W.heap.size) (hOKk : ∀ (W1 W2 : World) x cs, OK W1 x cs → (∀ b, W.heap.size + 3 ≤ b → b < W1.heap.size → W2.heap[b]? = W1.heap[b]?) → OK W2 x cs) (hJn : ∀ W1 W2 : World, Jn W1 → (∀ b, b < W.heap.size → W2.heap[b]? = W1.heap[b]?) → Jn W2)
    (g : Below W3.heap.size W3 W4) : RdMid TY w W X OK Jn x cs W4 :=
  h.step hw hOKk hJn (Touch.of_below g fun b h1 h2 => absurd h1 (by omega)) (belowBlk g (by have := h.size; omega) h.q6) (belowBlk g (by have := h.size; omega) h.q7)
theorem touch_row (W3 : World) (b : Nat) (c : Array Value) {S : Nat → Prop} (hS : S b) : Touch S W3 (W3.setRow b c) :=
  ⟨rfl, rfl, rfl, by simp, fun y _ hy => setRow_other W3 b y c (fun e => hy (e ▸ hS))⟩
theorem RdMid.set6 (h : RdMid TY w W X OK Jn x cs W3) (hw : w.heap.size ≤ W.heap.size) (hOKk : ∀ (W1 W2 : World) x cs, OK W1 x cs → (∀ b, W.heap.size + 3 ≤ b → b < W1.heap.size → W2.heap[b]? = W1.heap[b]?) → OK W2 x cs) (hJn : ∀ W1 W2 : World, Jn W1 → (∀ b, b < W.heap.size → W2.heap[b]? = W1.heap[b]?) → Jn W2) : RdMid TY w W X OK Jn x cs (W3.setRow W.heap.size cs) :=
  h.step hw hOKk hJn (touch_row W3 _ _ (.inl rfl)) (setRow_heap W3 _ _ cs _ _ h.q6) ((setRow_other W3 _ _ cs (by omega)).trans h.q7)
theorem RdMid.set7 (h : RdMid TY w W X OK Jn x cs W3) (hw : w.heap.size ≤ W.heap.size) (hOKk : ∀ (W1 W2 : World) x cs, OK W1 x cs → (∀ b, W.heap.size + 3 ≤ b → b < W1.heap.size → W2.heap[b]? = W1.heap[b]?) → OK W2 x cs) (hJn : ∀ W1 W2 : World, Jn W1 → (∀ b, b < W.heap.size → W2.heap[b]? = W1.heap[b]?) → Jn W2) : RdMid TY w W X OK Jn x cs (W3.setRow (W.heap.size + 1) #[.int .i64 0]) :=
  h.step hw hOKk hJn (touch_row W3 _ _ (.inr rfl)) ((setRow_other W3 _ _ _ (by omega)).trans h.q6) (setRow_heap W3 _ _ _ _ _ h.q7)
theorem RdMid.first (hw : w.heap.size ≤ W.heap.size) (hX : ∀ b, X b → b < W.heap.size) (hOKk : ∀ (W1 W2 : World) x cs, OK W1 x cs → (∀ b, W.heap.size + 3 ≤ b → b < W1.heap.size → W2.heap[b]? = W1.heap[b]?) → OK W2 x cs) (hJn : ∀ W1 W2 : World, Jn W1 → (∀ b, b < W.heap.size → W2.heap[b]? = W1.heap[b]?) → Jn W2)
    (hs2 : W.heap.size + 3 ≤ W2.heap.size) (hb2 : Below w.heap.size w W2) (hk : ∀ b, b < W.heap.size → ¬ X b → W2.heap[b]? = W.heap[b]?) (h6 : W2.heap[W.heap.size]? = some (.cells z TY (0, 0))) (h7 : W2.heap[W.heap.size + 1]? = some (.cells #[.int .i64 0] 29 (0, 0))) (ho : OK W2 x cs) (hj : Jn W2) :
    RdMid TY w W X OK Jn x cs (W2.setRow W.heap.size cs) := by
  have g := touch_row W2 W.heap.size cs (S := fun b => b = W.heap.size ∨ b = W.heap.size + 1) (.inl rfl)
  exact ⟨Nat.le_trans hs2 g.size, g.below hb2 (fun b hb he => by omega) (by omega), fun b hb hx => (g.block b (by omega) (by omega)).trans (hk b hb hx), setRow_heap W2 _ _ cs _ _ h6, (setRow_other W2 _ _ cs (by omega)).trans h7, hOKk _ _ _ _ ho fun b h1 h2 => g.block b h2 (by omega), hJn _ _ hj fun b hb => g.block b (by omega) (by omega)⟩
theorem RdMid.bad (h : RdMid TY w W X OK Jn x cs W3) (hw : w.heap.size ≤ W.heap.size) (g : Touch (fun b => b = W.heap.size ∨ b = W.heap.size + 1) W3 W4) (hr : r = none) (hf : ¬ fails) : ReadPost w W X mk z OK Jn fails r (.returned (.tuple #[mk z, .int .i64 290])) W4 := by
  subst hr
  exact ⟨g.below h.b (fun b hb he => by omega) (by have := h.size; omega), by have := h.size; have := g.size; omega, fun b hb hx => (g.block b (by have := h.size; omega) (by omega)).trans (h.keep b hb hx), rfl, fun k => absurd k hf⟩
theorem RdMid.good (h : RdMid TY w W X OK Jn x cs W3) (hr : r = some x) : ReadPost w W X mk z OK Jn fails r (.returned (.tuple #[mk cs, .int .i64 0])) W3 := by
  subst hr
  exact ⟨h.b, by have := h.size; omega, h.keep, cs, rfl, h.ok, h.jn⟩
end
end Go.Proofs.YthdfedfholmbmaaGreatDoor

namespace Go.Proofs.YthdfedfholmbmaaGreatDoor
open Go.RowKit
theorem leavesG_bad {fn : Func} {tmps : Array Value} {R : Ending → World → Prop} {W2 : World} {z : Array Value} {n : Int} {B6 B7 : Nat} (h6 : W2.heap[B6]? = some (.cells z 25 (0, 0))) (hz : z.size = 4) (h7 : W2.heap[B7]? = some (.cells #[.int .i64 n] 29 (0, 0))) (hne : B6 ≠ B7)
    (hres : fn.results = #[.cell 6 25, .cell 7 29]) (t6 : tmps.getD 6 undef = .pointer (some ⟨B6, 0, none⟩)) (t7 : tmps.getD 7 undef = .pointer (some ⟨B7, 0, none⟩))
    (hR : ∀ W3, Touch (fun x => x = B6 ∨ x = B7) W2 W3 → R (.returned (.tuple #[.agg #[.slice none 0 0, .slice none 0 0, .int .i64 0, .int .i64 0], .int .i64 290])) W3) :
    Leaves Tryz.prog fn tmps R [{ target := .fn (.func 104) #[.pointer (some ⟨B6, 0, none⟩), .pointer (some ⟨B7, 0, none⟩)], args := #[] }] (.panicking [{ v := badV, recovered := false }]) W2 := by
  refine leaves_cons (f := 104) (args := #[.pointer (some ⟨B6, 0, none⟩), .pointer (some ⟨B7, 0, none⟩)]) (by simp) (enters_plain Tryz.func104 rfl rfl _ _) ((caughtG h6 hz h7 hne).mono ?_)
  rintro e u' w' ⟨rfl, rfl, g1, g2, gT⟩
  exact ⟨_, results_cells2 hres _ _ ⟨B6, 0, none⟩ ⟨B7, 0, none⟩ (.agg #[.slice none 0 0, .slice none 0 0, .int .i64 0, .int .i64 0]) (.int .i64 290) t6 t7 (vt_graph.get rfl g1) (vt_errno.get rfl g2), hR _ gT⟩
theorem leavesG_ok {fn : Func} {tmps : Array Value} {R : Ending → World → Prop} {W2 : World} {z : Array Value} {B6 B7 : Nat} (h6 : W2.heap[B6]? = some (.cells z 25 (0, 0))) (hz : z.size = 4) (h7 : W2.heap[B7]? = some (.cells #[.int .i64 0] 29 (0, 0)))
    (hres : fn.results = #[.cell 6 25, .cell 7 29]) (t6 : tmps.getD 6 undef = .pointer (some ⟨B6, 0, none⟩)) (t7 : tmps.getD 7 undef = .pointer (some ⟨B7, 0, none⟩))
    (hR : R (.returned (.tuple #[.agg z, .int .i64 0])) W2) :
    Leaves Tryz.prog fn tmps R [{ target := .fn (.func 104) #[.pointer (some ⟨B6, 0, none⟩), .pointer (some ⟨B7, 0, none⟩)], args := #[] }] .returning W2 := by
  refine leaves_cons (f := 104) (args := #[.pointer (some ⟨B6, 0, none⟩), .pointer (some ⟨B7, 0, none⟩)]) (by simp) (enters_plain Tryz.func104 rfl rfl _ _) ((idleG _ _ _).mono ?_)
  rintro e u' w' ⟨rfl, rfl, rfl⟩
  exact ⟨_, results_cells2 hres _ _ ⟨B6, 0, none⟩ ⟨B7, 0, none⟩ (.agg z) (.int .i64 0) t6 t7 (vt_graph.get hz h6) (vt_errno.get rfl h7), hR⟩
theorem readG_any {α : Type} (d : Dec α) (okB : α → Bool) {w W : World} {p : Option Addr} {c : Nat} {bs : List UInt8} (hb : Below w.heap.size w W) (hrd : RdB w (.slice p bs.length c) bs) (hlb : bs.length ≤ 1000000) (X : Nat → Prop) (hX : ∀ b, X b → b < W.heap.size)
    (Jn : World → Prop) (hJn : ∀ W1 W2 : World, Jn W1 → (∀ b, b < W.heap.size → W2.heap[b]? = W1.heap[b]?) → Jn W2)
    (OK : World → α → Array Value → Prop) (hOKs : ∀ W1 x cs, OK W1 x cs → cs.size = 4 ∧ ∀ u ∈ cs.toList, u.oneCell' = true)
    (hOKk : ∀ (W1 W2 : World) x cs, OK W1 x cs → (∀ b, W.heap.size + 3 ≤ b → b < W1.heap.size → W2.heap[b]? = W1.heap[b]?) → OK W2 x cs)
    (one : ∀ W1 : World, W1.heap.size = W.heap.size + 3 → RSt 141 w W1 (W.heap.size + 2) bs → (∀ b, b < W.heap.size → W1.heap[b]? = W.heap[b]?) → Calls Tryz.prog 50 #[.pointer (some ⟨W.heap.size + 2, 0, none⟩)] W1 fun e W2 =>
      W1.heap.size ≤ W2.heap.size ∧ Below w.heap.size w W2 ∧ (∀ b, b < W1.heap.size → b ≠ W.heap.size + 2 → ¬ X b → W2.heap[b]? = W1.heap[b]?) ∧ ((d bs = none ∧ e = given ∧ ∀ b, X b → W2.heap[b]? = W1.heap[b]?) ∨ ∃ x s cs, d bs = some (x, s) ∧ e = .returned (.agg cs) ∧ OK W2 x cs ∧ RSt 141 w W2 (W.heap.size + 2) s ∧ s.length ≤ bs.length ∧ Jn W2))
    (fine : ∀ W1 x s cs, d bs = some (x, s) → OK W1 x cs → Below w.heap.size w W1 → Calls Tryz.prog 56 #[.agg cs] W1 fun e W2 => e = .returned (.bool (okB x)) ∧ Below W1.heap.size W1 W2) :
    Calls Tryz.prog 49 #[.slice p bs.length c, .func (.func 50) #[] #[], .func (.func 56) #[] #[]] W (ReadPost w W X .agg #[.slice none 0 0, .slice none 0 0, .int .i64 0, .int .i64 0] OK Jn (d bs = none) (readW d okB bs)) := by
  have zl : (bs.length : Int) ≤ 1000000 := by omega
  have hws := hb.size
  have hb1 : Below W.heap.size W (((W.alloc (.cells #[.slice none 0 0, .slice none 0 0, .int .i64 0, .int .i64 0] 25)).alloc (.cells #[.int .i64 0] 29)).alloc (.cells #[.slice p bs.length c] 141)) := ((below_new _).alloc (by simp) _).alloc (by simp; omega) _
  have p6 : (((W.alloc (.cells #[.slice none 0 0, .slice none 0 0, .int .i64 0, .int .i64 0] 25)).alloc (.cells #[.int .i64 0] 29)).alloc (.cells #[.slice p bs.length c] 141)).heap[W.heap.size]? = some (.cells #[.slice none 0 0, .slice none 0 0, .int .i64 0, .int .i64 0] 25 (0, 0)) := by
    simp only [heap_get_alloc, World.size_alloc]; rw [if_neg (by omega), if_neg (by omega), if_pos trivial]
  have p7 : (((W.alloc (.cells #[.slice none 0 0, .slice none 0 0, .int .i64 0, .int .i64 0] 25)).alloc (.cells #[.int .i64 0] 29)).alloc (.cells #[.slice p bs.length c] 141)).heap[W.heap.size + 1]? = some (.cells #[.int .i64 0] 29 (0, 0)) := by
    simp only [heap_get_alloc, World.size_alloc]; rw [if_neg (by omega), if_pos trivial]
  have p8 : (((W.alloc (.cells #[.slice none 0 0, .slice none 0 0, .int .i64 0, .int .i64 0] 25)).alloc (.cells #[.int .i64 0] 29)).alloc (.cells #[.slice p bs.length c] 141)).heap[W.heap.size + 2]? = some (.cells #[.slice p bs.length c] 141 (0, 0)) := by
    have e : W.heap.size + 2 = W.heap.size + 1 + 1 := rfl
    rw [e]; simp only [heap_get_alloc, World.size_alloc]; rw [if_pos trivial]
  have hsz : (((W.alloc (.cells #[.slice none 0 0, .slice none 0 0, .int .i64 0, .int .i64 0] 25)).alloc (.cells #[.int .i64 0] 29)).alloc (.cells #[.slice p bs.length c] 141)).heap.size = W.heap.size + 3 := by simp
  have hone := one _ hsz ⟨below_trans hb hb1, by omega, p, c, p8, hrd⟩ (fun b hbb => hb1.block b hbb)
  have HO := Lib.hid hone
  have HP := Lib.hid (And.intro hb1 (And.intro p6 (And.intro p7 hsz)))
  have HFN := Lib.hid fine
  have HOS := Lib.hid hOKs
  have HOK := Lib.hid hOKk
  have HJ := Lib.hid hJn
  have HB0 := Lib.hid hb
  clear hone hb1 p6 p7 p8 fine hOKs hOKk hJn one hrd hb
  have back : ∀ W2 W3 : World, (((W.alloc (.cells #[.slice none 0 0, .slice none 0 0, .int .i64 0, .int .i64 0] 25)).alloc (.cells #[.int .i64 0] 29)).alloc (.cells #[.slice p bs.length c] 141)).heap.size ≤ W2.heap.size → (∀ b, b < (((W.alloc (.cells #[.slice none 0 0, .slice none 0 0, .int .i64 0, .int .i64 0] 25)).alloc (.cells #[.int .i64 0] 29)).alloc (.cells #[.slice p bs.length c] 141)).heap.size → b ≠ W.heap.size + 2 → ¬ X b → W2.heap[b]? = (((W.alloc (.cells #[.slice none 0 0, .slice none 0 0, .int .i64 0, .int .i64 0] 25)).alloc (.cells #[.int .i64 0] 29)).alloc (.cells #[.slice p bs.length c] 141)).heap[b]?) →
      W2.heap.size ≤ W3.heap.size → (∀ b, b < W2.heap.size → b ≠ W.heap.size → b ≠ W.heap.size + 1 → W3.heap[b]? = W2.heap[b]?) → W.heap.size ≤ W3.heap.size ∧ ∀ b, b < W.heap.size → ¬ X b → W3.heap[b]? = W.heap[b]? := by
    intro W2 W3 h1 h2 h3 h4
    have hs := HP.out.2.2.2
    exact ⟨by omega, fun b hb1 hbx => (h4 b (by omega) (by omega) (by omega)).trans ((h2 b (by omega) (by omega) hbx).trans (HP.out.1.block b hb1))⟩
  have HBK := Lib.hid back
  clear back
  refine calls_of_wp_defers Tryz.func49 rfl ?_
  simp only [Tryz.ntmps49, List.size_toArray, List.length_cons, List.length_nil, Nat.reduceAdd, Nat.reduceSub, Array.replicate_succ, Array.replicate_zero, List.push_toArray, List.append_toArray, List.nil_append, List.cons_append]
  have hres : Tryz.f49.results = #[.cell 6 25, .cell 7 29] := rfl
  cases hd : d bs with
  | none =>
    have HRW := Lib.hid (readW_none (ok := okB) hd)
    have HD := Lib.hid hd
    clear hd
    go_wp2_with (go_at_call 50; refine HO.out.mono ?_; rintro e W2 ⟨hs2, hb2, hk2, ⟨_, rfl, hx2⟩ | ⟨x, s, cs, he, _⟩⟩; rotate_left; exact absurd he (by rw [HD.out]; simp); have H2 := Lib.hid (And.intro hs2 (And.intro hb2 (And.intro hk2 hx2))); clear hs2 hb2 hk2 hx2)
    obtain ⟨hs2, hb2, hk2, hx2⟩ := H2.out
    obtain ⟨hb1, p6, p7, hsz⟩ := HP.out
    have hs3 : W.heap.size + 3 ≤ W2.heap.size := by omega
    refine leavesG_bad (n := 0) ((hk2 _ (by omega) (by omega) (fun h => by have := hX _ h; omega)).trans p6) rfl ((hk2 _ (by omega) (by omega) (fun h => by have := hX _ h; omega)).trans p7) (by omega) hres rfl rfl fun W3 hT => ?_
    obtain ⟨g1, g2⟩ := HBK.out W2 W3 hs2 hk2 hT.size (fun b hb h6 h7 => hT.block b hb (fun h => h.elim h6 h7))
    refine ⟨hT.below hb2 (fun b hb he => by omega) (by omega), g1, g2, ?_⟩
    rw [HRW.out]
    exact ⟨rfl, fun _ b hb => (hT.block b (by have := hX b hb; omega) (by have := hX b hb; omega)).trans ((hx2 b hb).trans (hb1.block b (hX b hb)))⟩
  | some pr =>
    obtain ⟨x, s⟩ := pr
    have HD := Lib.hid hd
    clear hd
    have hND : ¬ (d bs = none) := by rw [HD.out]; simp
    have HND := Lib.hid hND
    clear hND
    have mid : ∀ W2 cs, (((W.alloc (.cells #[.slice none 0 0, .slice none 0 0, .int .i64 0, .int .i64 0] 25)).alloc (.cells #[.int .i64 0] 29)).alloc (.cells #[.slice p bs.length c] 141)).heap.size ≤ W2.heap.size → Below w.heap.size w W2 → (∀ b, b < (((W.alloc (.cells #[.slice none 0 0, .slice none 0 0, .int .i64 0, .int .i64 0] 25)).alloc (.cells #[.int .i64 0] 29)).alloc (.cells #[.slice p bs.length c] 141)).heap.size → b ≠ W.heap.size + 2 → ¬ X b → W2.heap[b]? = (((W.alloc (.cells #[.slice none 0 0, .slice none 0 0, .int .i64 0, .int .i64 0] 25)).alloc (.cells #[.int .i64 0] 29)).alloc (.cells #[.slice p bs.length c] 141)).heap[b]?) →
        OK W2 x cs → RSt 141 w W2 (W.heap.size + 2) s → Jn W2 → W2.heap[W.heap.size]? = some (.cells #[.slice none 0 0, .slice none 0 0, .int .i64 0, .int .i64 0] 25 (0, 0)) ∧ RdMid 25 w W X OK Jn x cs (W2.setRow W.heap.size cs) ∧ ∃ p' c', (W2.setRow W.heap.size cs).cell? ⟨W.heap.size + 2, 0, none⟩ = some (.slice p' s.length c') := by
      intro W2 cs hs2 hb2 hk2 hO hR hj
      obtain ⟨hb1, p6, p7, hsz⟩ := HP.out
      have h6 := (hk2 W.heap.size (by omega) (by omega) (fun h => by have := hX _ h; omega)).trans p6
      obtain ⟨p', c', hq, _⟩ := hR.box
      exact ⟨h6, RdMid.first hws hX HOK.out HJ.out (by omega) hb2 (fun b hb hx => (hk2 b (by omega) (by omega) hx).trans (hb1.block b hb)) h6 ((hk2 (W.heap.size + 1) (by omega) (by omega) (fun h => by have := hX _ h; omega)).trans p7) hO hj,
        p', c', cellOf (o := 0) ((setRow_other W2 W.heap.size (W.heap.size + 2) cs (by omega)).trans hq) rfl⟩
    have HM := Lib.hid mid
    clear mid HP
    by_cases hs : s = []
    · subst hs
      cases hok : okB x with
      | true =>
        have HRW := Lib.hid (readW_yes HD.out hok)
        have HOKB := Lib.hid hok
        clear hok
        go_wp2_with (first
          | (go_at_call 50; refine HO.out.mono ?_; rintro e W2 ⟨hs2, hb2, hk2, ⟨hn, _⟩ | ⟨x', s', cs, he, rfl, hO, hR2, hl2, hj⟩⟩; exact absurd hn HND.out; obtain ⟨rfl, rfl⟩ : x = x' ∧ [] = s' := (by have e := HD.out.symm.trans he; simpa using e); obtain ⟨hcs, hcell⟩ := HOS.out W2 x cs hO; obtain ⟨h6, hm, p', c', hq⟩ := HM.out W2 cs hs2 hb2 hk2 hO hR2 hj; have HST := Lib.hid (vt_graph.put hcs hcell h6 rfl); generalize W2.setRow W.heap.size cs = W3 at *; have HF := Lib.hid (HFN.out W3 x [] cs he hm.ok hm.b); have HL := Lib.hid (vt_graph.get hcs hm.q6); have HMID := Lib.hid hm; have HCS := Lib.hid (And.intro hcs hcell); simp only [List.length_nil] at hq; clear hs2 hb2 hk2 he hO hR2 hl2 hj hcs hcell h6 hm HO HM HFN)
          | (go_at_call 56; refine HF.out.mono ?_; rintro e W4 ⟨rfl, hB4⟩; have hm4 := HMID.out.below hws HOK.out HJ.out hB4; have HL4 := Lib.hid (vt_graph.get HCS.out.1 hm4.q6); have HS4 := Lib.hid (vt_graph.put HCS.out.1 HCS.out.2 hm4.q6 HCS.out.1); have hm5 := hm4.set6 hws HOK.out HJ.out; have HS5 := Lib.hid (vt_errno.put (c := #[.int .i64 0]) rfl (by simp [Value.oneCell']) hm5.q7 rfl); have HM6 := Lib.hid (hm5.set7 hws HOK.out HJ.out); clear hm4 hm5 hB4 HF hq HL HST; rw [HOKB.out])
          | (go_at_call 105; refine (gmust_ok _).mono ?_; rintro e W' ⟨rfl, rfl⟩)
          | ((with_reducible apply op_store); exact HST.out; exact rfl; exact rfl)
          | ((with_reducible apply op_store); exact HS4.out; exact rfl; exact rfl)
          | ((with_reducible apply op_store); exact HS5.out; exact rfl; exact rfl)
          | ((with_reducible apply op_load); exact HL4.out; exact rfl)
          | ((with_reducible apply op_loadG); exact HL.out; exact rfl; exact rfl))
        exact leavesG_ok HM6.out.q6 HCS.out.1 HM6.out.q7 hres rfl rfl (HM6.out.good HRW.out)
      | false =>
        have HRW := Lib.hid (readW_no HD.out hok)
        have HOKB := Lib.hid hok
        clear hok
        go_wp2_with (first
          | (go_at_call 50; refine HO.out.mono ?_; rintro e W2 ⟨hs2, hb2, hk2, ⟨hn, _⟩ | ⟨x', s', cs, he, rfl, hO, hR2, hl2, hj⟩⟩; exact absurd hn HND.out; obtain ⟨rfl, rfl⟩ : x = x' ∧ [] = s' := (by have e := HD.out.symm.trans he; simpa using e); obtain ⟨hcs, hcell⟩ := HOS.out W2 x cs hO; obtain ⟨h6, hm, p', c', hq⟩ := HM.out W2 cs hs2 hb2 hk2 hO hR2 hj; have HST := Lib.hid (vt_graph.put hcs hcell h6 rfl); generalize W2.setRow W.heap.size cs = W3 at *; have HF := Lib.hid (HFN.out W3 x [] cs he hm.ok hm.b); have HL := Lib.hid (vt_graph.get hcs hm.q6); have HMID := Lib.hid hm; have HCS := Lib.hid (And.intro hcs hcell); simp only [List.length_nil] at hq; clear hs2 hb2 hk2 he hO hR2 hl2 hj hcs hcell h6 hm HO HM HFN)
          | (go_at_call 56; refine HF.out.mono ?_; rintro e W4 ⟨rfl, hB4⟩; have HM4 := Lib.hid (HMID.out.below hws HOK.out HJ.out hB4); clear hB4 HF hq HL HST; rw [HOKB.out])
          | (go_at_call 105; refine (gmust_bad _).mono ?_; rintro e W' ⟨rfl, rfl⟩)
          | ((with_reducible apply op_store); exact HST.out; exact rfl; exact rfl)
          | ((with_reducible apply op_loadG); exact HL.out; exact rfl; exact rfl))
        exact leavesG_bad HM4.out.q6 HCS.out.1 HM4.out.q7 (by omega) hres rfl rfl fun W5 hT => HM4.out.bad hws hT HRW.out (by first | exact HND.out | exact fun h => h)
    · have HRW := Lib.hid (readW_left (ok := okB) HD.out hs)
      have hls : decide (((s.length : Int)) = 0) = false := by
        have : s.length ≠ 0 := fun h => hs (List.length_eq_zero_iff.1 h)
        simp only [decide_eq_false_iff_not]; omega
      have HS0 := Lib.hid hs
      clear hs
      go_wp2_with (first
        | (go_at_call 50; refine HO.out.mono ?_; rintro e W2 ⟨hs2, hb2, hk2, ⟨hn, _⟩ | ⟨x', s', cs, he, rfl, hO, hR2, hl2, hj⟩⟩; exact absurd hn HND.out; obtain ⟨rfl, rfl⟩ : x = x' ∧ s = s' := (by have e := HD.out.symm.trans he; simpa using e); obtain ⟨hcs, hcell⟩ := HOS.out W2 x cs hO; obtain ⟨h6, hm, p', c', hq⟩ := HM.out W2 cs hs2 hb2 hk2 hO hR2 hj; have HST := Lib.hid (vt_graph.put hcs hcell h6 rfl); generalize W2.setRow W.heap.size cs = W3 at *; have HMID := Lib.hid hm; have HCS := Lib.hid (And.intro hcs hcell); clear hs2 hb2 hk2 he hO hR2 hl2 hj hcs hcell h6 hm HO HM HFN)
        | (go_at_call 105; refine (gmust_bad _).mono ?_; rintro e W' ⟨rfl, rfl⟩)
        | ((with_reducible apply op_store); exact HST.out; exact rfl; exact rfl))
      exact leavesG_bad HMID.out.q6 HCS.out.1 HMID.out.q7 (by omega) hres rfl rfl fun W5 hT => HMID.out.bad hws hT HRW.out (by first | exact HND.out | exact fun h => h)
end Go.Proofs.YthdfedfholmbmaaGreatDoor

namespace Go.Proofs.YthdfedfholmbmaaGreatDoor
open Go.RowKit
theorem leavesV_bad {fn : Func} {tmps : Array Value} {R : Ending → World → Prop} {W2 : World} {z : Array Value} {n : Int} {B6 B7 : Nat} (h6 : W2.heap[B6]? = some (.cells z 48 (0, 0))) (hz : z.size = 6) (h7 : W2.heap[B7]? = some (.cells #[.int .i64 n] 29 (0, 0))) (hne : B6 ≠ B7)
    (hres : fn.results = #[.cell 6 48, .cell 7 29]) (t6 : tmps.getD 6 undef = .pointer (some ⟨B6, 0, none⟩)) (t7 : tmps.getD 7 undef = .pointer (some ⟨B7, 0, none⟩))
    (hR : ∀ W3, Touch (fun x => x = B6 ∨ x = B7) W2 W3 → R (.returned (.tuple #[.agg #[.int .i64 0, .bool false, .int .i64 0, .string ⟨#[]⟩, .slice none 0 0, .slice none 0 0], .int .i64 290])) W3) :
    Leaves Tryz.prog fn tmps R [{ target := .fn (.func 121) #[.pointer (some ⟨B6, 0, none⟩), .pointer (some ⟨B7, 0, none⟩)], args := #[] }] (.panicking [{ v := badV, recovered := false }]) W2 := by
  refine leaves_cons (f := 121) (args := #[.pointer (some ⟨B6, 0, none⟩), .pointer (some ⟨B7, 0, none⟩)]) (by simp) (enters_plain Tryz.func121 rfl rfl _ _) ((caughtV h6 hz h7 hne).mono ?_)
  rintro e u' w' ⟨rfl, rfl, g1, g2, gT⟩
  exact ⟨_, results_cells2 hres _ _ ⟨B6, 0, none⟩ ⟨B7, 0, none⟩ (.agg #[.int .i64 0, .bool false, .int .i64 0, .string ⟨#[]⟩, .slice none 0 0, .slice none 0 0]) (.int .i64 290) t6 t7 (vt_val.get rfl g1) (vt_errno.get rfl g2), hR _ gT⟩
theorem leavesV_ok {fn : Func} {tmps : Array Value} {R : Ending → World → Prop} {W2 : World} {z : Array Value} {B6 B7 : Nat} (h6 : W2.heap[B6]? = some (.cells z 48 (0, 0))) (hz : z.size = 6) (h7 : W2.heap[B7]? = some (.cells #[.int .i64 0] 29 (0, 0)))
    (hres : fn.results = #[.cell 6 48, .cell 7 29]) (t6 : tmps.getD 6 undef = .pointer (some ⟨B6, 0, none⟩)) (t7 : tmps.getD 7 undef = .pointer (some ⟨B7, 0, none⟩))
    (hR : R (.returned (.tuple #[.agg z, .int .i64 0])) W2) :
    Leaves Tryz.prog fn tmps R [{ target := .fn (.func 121) #[.pointer (some ⟨B6, 0, none⟩), .pointer (some ⟨B7, 0, none⟩)], args := #[] }] .returning W2 := by
  refine leaves_cons (f := 121) (args := #[.pointer (some ⟨B6, 0, none⟩), .pointer (some ⟨B7, 0, none⟩)]) (by simp) (enters_plain Tryz.func121 rfl rfl _ _) ((idleV _ _ _).mono ?_)
  rintro e u' w' ⟨rfl, rfl, rfl⟩
  exact ⟨_, results_cells2 hres _ _ ⟨B6, 0, none⟩ ⟨B7, 0, none⟩ (.agg z) (.int .i64 0) t6 t7 (vt_val.get hz h6) (vt_errno.get rfl h7), hR⟩
theorem readV_any {α : Type} (d : Dec α) (okB : α → Bool) {w W : World} {p : Option Addr} {c : Nat} {bs : List UInt8} (hb : Below w.heap.size w W) (hrd : RdB w (.slice p bs.length c) bs) (hlb : bs.length ≤ 1000000) (X : Nat → Prop) (hX : ∀ b, X b → b < W.heap.size)
    (Jn : World → Prop) (hJn : ∀ W1 W2 : World, Jn W1 → (∀ b, b < W.heap.size → W2.heap[b]? = W1.heap[b]?) → Jn W2)
    (OK : World → α → Array Value → Prop) (hOKs : ∀ W1 x cs, OK W1 x cs → cs.size = 6 ∧ ∀ u ∈ cs.toList, u.oneCell' = true)
    (hOKk : ∀ (W1 W2 : World) x cs, OK W1 x cs → (∀ b, W.heap.size + 3 ≤ b → b < W1.heap.size → W2.heap[b]? = W1.heap[b]?) → OK W2 x cs)
    (one : ∀ W1 : World, W1.heap.size = W.heap.size + 3 → RSt 141 w W1 (W.heap.size + 2) bs → (∀ b, b < W.heap.size → W1.heap[b]? = W.heap[b]?) → Calls Tryz.prog 70 #[.pointer (some ⟨W.heap.size + 2, 0, none⟩)] W1 fun e W2 =>
      W1.heap.size ≤ W2.heap.size ∧ Below w.heap.size w W2 ∧ (∀ b, b < W1.heap.size → b ≠ W.heap.size + 2 → ¬ X b → W2.heap[b]? = W1.heap[b]?) ∧ ((d bs = none ∧ e = given ∧ ∀ b, X b → W2.heap[b]? = W1.heap[b]?) ∨ ∃ x s cs, d bs = some (x, s) ∧ e = .returned (.agg cs) ∧ OK W2 x cs ∧ RSt 141 w W2 (W.heap.size + 2) s ∧ s.length ≤ bs.length ∧ Jn W2))
    (fine : ∀ W1 x s cs, d bs = some (x, s) → OK W1 x cs → Below w.heap.size w W1 → Calls Tryz.prog 72 #[.agg cs] W1 fun e W2 => e = .returned (.bool (okB x)) ∧ Below W1.heap.size W1 W2) :
    Calls Tryz.prog 69 #[.slice p bs.length c, .func (.func 70) #[] #[], .func (.func 72) #[] #[]] W (ReadPost w W X .agg #[.int .i64 0, .bool false, .int .i64 0, .string ⟨#[]⟩, .slice none 0 0, .slice none 0 0] OK Jn (d bs = none) (readW d okB bs)) := by
  have zl : (bs.length : Int) ≤ 1000000 := by omega
  have hws := hb.size
  have hb1 : Below W.heap.size W (((W.alloc (.cells #[.int .i64 0, .bool false, .int .i64 0, .string ⟨#[]⟩, .slice none 0 0, .slice none 0 0] 48)).alloc (.cells #[.int .i64 0] 29)).alloc (.cells #[.slice p bs.length c] 141)) := ((below_new _).alloc (by simp) _).alloc (by simp; omega) _
  have p6 : (((W.alloc (.cells #[.int .i64 0, .bool false, .int .i64 0, .string ⟨#[]⟩, .slice none 0 0, .slice none 0 0] 48)).alloc (.cells #[.int .i64 0] 29)).alloc (.cells #[.slice p bs.length c] 141)).heap[W.heap.size]? = some (.cells #[.int .i64 0, .bool false, .int .i64 0, .string ⟨#[]⟩, .slice none 0 0, .slice none 0 0] 48 (0, 0)) := by
    simp only [heap_get_alloc, World.size_alloc]; rw [if_neg (by omega), if_neg (by omega), if_pos trivial]
  have p7 : (((W.alloc (.cells #[.int .i64 0, .bool false, .int .i64 0, .string ⟨#[]⟩, .slice none 0 0, .slice none 0 0] 48)).alloc (.cells #[.int .i64 0] 29)).alloc (.cells #[.slice p bs.length c] 141)).heap[W.heap.size + 1]? = some (.cells #[.int .i64 0] 29 (0, 0)) := by
    simp only [heap_get_alloc, World.size_alloc]; rw [if_neg (by omega), if_pos trivial]
  have p8 : (((W.alloc (.cells #[.int .i64 0, .bool false, .int .i64 0, .string ⟨#[]⟩, .slice none 0 0, .slice none 0 0] 48)).alloc (.cells #[.int .i64 0] 29)).alloc (.cells #[.slice p bs.length c] 141)).heap[W.heap.size + 2]? = some (.cells #[.slice p bs.length c] 141 (0, 0)) := by
    have e : W.heap.size + 2 = W.heap.size + 1 + 1 := rfl
    rw [e]; simp only [heap_get_alloc, World.size_alloc]; rw [if_pos trivial]
  have hsz : (((W.alloc (.cells #[.int .i64 0, .bool false, .int .i64 0, .string ⟨#[]⟩, .slice none 0 0, .slice none 0 0] 48)).alloc (.cells #[.int .i64 0] 29)).alloc (.cells #[.slice p bs.length c] 141)).heap.size = W.heap.size + 3 := by simp
  have hone := one _ hsz ⟨below_trans hb hb1, by omega, p, c, p8, hrd⟩ (fun b hbb => hb1.block b hbb)
  have HO := Lib.hid hone
  have HP := Lib.hid (And.intro hb1 (And.intro p6 (And.intro p7 hsz)))
  have HFN := Lib.hid fine
  have HOS := Lib.hid hOKs
  have HOK := Lib.hid hOKk
  have HJ := Lib.hid hJn
  have HB0 := Lib.hid hb
  clear hone hb1 p6 p7 p8 fine hOKs hOKk hJn one hrd hb
  have back : ∀ W2 W3 : World, (((W.alloc (.cells #[.int .i64 0, .bool false, .int .i64 0, .string ⟨#[]⟩, .slice none 0 0, .slice none 0 0] 48)).alloc (.cells #[.int .i64 0] 29)).alloc (.cells #[.slice p bs.length c] 141)).heap.size ≤ W2.heap.size → (∀ b, b < (((W.alloc (.cells #[.int .i64 0, .bool false, .int .i64 0, .string ⟨#[]⟩, .slice none 0 0, .slice none 0 0] 48)).alloc (.cells #[.int .i64 0] 29)).alloc (.cells #[.slice p bs.length c] 141)).heap.size → b ≠ W.heap.size + 2 → ¬ X b → W2.heap[b]? = (((W.alloc (.cells #[.int .i64 0, .bool false, .int .i64 0, .string ⟨#[]⟩, .slice none 0 0, .slice none 0 0] 48)).alloc (.cells #[.int .i64 0] 29)).alloc (.cells #[.slice p bs.length c] 141)).heap[b]?) →
      W2.heap.size ≤ W3.heap.size → (∀ b, b < W2.heap.size → b ≠ W.heap.size → b ≠ W.heap.size + 1 → W3.heap[b]? = W2.heap[b]?) → W.heap.size ≤ W3.heap.size ∧ ∀ b, b < W.heap.size → ¬ X b → W3.heap[b]? = W.heap[b]? := by
    intro W2 W3 h1 h2 h3 h4
    have hs := HP.out.2.2.2
    exact ⟨by omega, fun b hb1 hbx => (h4 b (by omega) (by omega) (by omega)).trans ((h2 b (by omega) (by omega) hbx).trans (HP.out.1.block b hb1))⟩
  have HBK := Lib.hid back
  clear back
  refine calls_of_wp_defers Tryz.func69 rfl ?_
  simp only [Tryz.ntmps69, List.size_toArray, List.length_cons, List.length_nil, Nat.reduceAdd, Nat.reduceSub, Array.replicate_succ, Array.replicate_zero, List.push_toArray, List.append_toArray, List.nil_append, List.cons_append]
  have hres : Tryz.f69.results = #[.cell 6 48, .cell 7 29] := rfl
  cases hd : d bs with
  | none =>
    have HRW := Lib.hid (readW_none (ok := okB) hd)
    have HD := Lib.hid hd
    clear hd
    go_wp2_with (go_at_call 70; refine HO.out.mono ?_; rintro e W2 ⟨hs2, hb2, hk2, ⟨_, rfl, hx2⟩ | ⟨x, s, cs, he, _⟩⟩; rotate_left; exact absurd he (by rw [HD.out]; simp); have H2 := Lib.hid (And.intro hs2 (And.intro hb2 (And.intro hk2 hx2))); clear hs2 hb2 hk2 hx2)
    obtain ⟨hs2, hb2, hk2, hx2⟩ := H2.out
    obtain ⟨hb1, p6, p7, hsz⟩ := HP.out
    have hs3 : W.heap.size + 3 ≤ W2.heap.size := by omega
    refine leavesV_bad (n := 0) ((hk2 _ (by omega) (by omega) (fun h => by have := hX _ h; omega)).trans p6) rfl ((hk2 _ (by omega) (by omega) (fun h => by have := hX _ h; omega)).trans p7) (by omega) hres rfl rfl fun W3 hT => ?_
    obtain ⟨g1, g2⟩ := HBK.out W2 W3 hs2 hk2 hT.size (fun b hb h6 h7 => hT.block b hb (fun h => h.elim h6 h7))
    refine ⟨hT.below hb2 (fun b hb he => by omega) (by omega), g1, g2, ?_⟩
    rw [HRW.out]
    exact ⟨rfl, fun _ b hb => (hT.block b (by have := hX b hb; omega) (by have := hX b hb; omega)).trans ((hx2 b hb).trans (hb1.block b (hX b hb)))⟩
  | some pr =>
    obtain ⟨x, s⟩ := pr
    have HD := Lib.hid hd
    clear hd
    have hND : ¬ (d bs = none) := by rw [HD.out]; simp
    have HND := Lib.hid hND
    clear hND
    have mid : ∀ W2 cs, (((W.alloc (.cells #[.int .i64 0, .bool false, .int .i64 0, .string ⟨#[]⟩, .slice none 0 0, .slice none 0 0] 48)).alloc (.cells #[.int .i64 0] 29)).alloc (.cells #[.slice p bs.length c] 141)).heap.size ≤ W2.heap.size → Below w.heap.size w W2 → (∀ b, b < (((W.alloc (.cells #[.int .i64 0, .bool false, .int .i64 0, .string ⟨#[]⟩, .slice none 0 0, .slice none 0 0] 48)).alloc (.cells #[.int .i64 0] 29)).alloc (.cells #[.slice p bs.length c] 141)).heap.size → b ≠ W.heap.size + 2 → ¬ X b → W2.heap[b]? = (((W.alloc (.cells #[.int .i64 0, .bool false, .int .i64 0, .string ⟨#[]⟩, .slice none 0 0, .slice none 0 0] 48)).alloc (.cells #[.int .i64 0] 29)).alloc (.cells #[.slice p bs.length c] 141)).heap[b]?) →
        OK W2 x cs → RSt 141 w W2 (W.heap.size + 2) s → Jn W2 → W2.heap[W.heap.size]? = some (.cells #[.int .i64 0, .bool false, .int .i64 0, .string ⟨#[]⟩, .slice none 0 0, .slice none 0 0] 48 (0, 0)) ∧ RdMid 48 w W X OK Jn x cs (W2.setRow W.heap.size cs) ∧ ∃ p' c', (W2.setRow W.heap.size cs).cell? ⟨W.heap.size + 2, 0, none⟩ = some (.slice p' s.length c') := by
      intro W2 cs hs2 hb2 hk2 hO hR hj
      obtain ⟨hb1, p6, p7, hsz⟩ := HP.out
      have h6 := (hk2 W.heap.size (by omega) (by omega) (fun h => by have := hX _ h; omega)).trans p6
      obtain ⟨p', c', hq, _⟩ := hR.box
      exact ⟨h6, RdMid.first hws hX HOK.out HJ.out (by omega) hb2 (fun b hb hx => (hk2 b (by omega) (by omega) hx).trans (hb1.block b hb)) h6 ((hk2 (W.heap.size + 1) (by omega) (by omega) (fun h => by have := hX _ h; omega)).trans p7) hO hj,
        p', c', cellOf (o := 0) ((setRow_other W2 W.heap.size (W.heap.size + 2) cs (by omega)).trans hq) rfl⟩
    have HM := Lib.hid mid
    clear mid HP
    by_cases hs : s = []
    · subst hs
      cases hok : okB x with
      | true =>
        have HRW := Lib.hid (readW_yes HD.out hok)
        have HOKB := Lib.hid hok
        clear hok
        go_wp2_with (first
          | (go_at_call 70; refine HO.out.mono ?_; rintro e W2 ⟨hs2, hb2, hk2, ⟨hn, _⟩ | ⟨x', s', cs, he, rfl, hO, hR2, hl2, hj⟩⟩; exact absurd hn HND.out; obtain ⟨rfl, rfl⟩ : x = x' ∧ [] = s' := (by have e := HD.out.symm.trans he; simpa using e); obtain ⟨hcs, hcell⟩ := HOS.out W2 x cs hO; obtain ⟨h6, hm, p', c', hq⟩ := HM.out W2 cs hs2 hb2 hk2 hO hR2 hj; have HST := Lib.hid (vt_val.put hcs hcell h6 rfl); generalize W2.setRow W.heap.size cs = W3 at *; have HF := Lib.hid (HFN.out W3 x [] cs he hm.ok hm.b); have HL := Lib.hid (vt_val.get hcs hm.q6); have HMID := Lib.hid hm; have HCS := Lib.hid (And.intro hcs hcell); simp only [List.length_nil] at hq; clear hs2 hb2 hk2 he hO hR2 hl2 hj hcs hcell h6 hm HO HM HFN)
          | (go_at_call 72; refine HF.out.mono ?_; rintro e W4 ⟨rfl, hB4⟩; have hm4 := HMID.out.below hws HOK.out HJ.out hB4; have HL4 := Lib.hid (vt_val.get HCS.out.1 hm4.q6); have HS4 := Lib.hid (vt_val.put HCS.out.1 HCS.out.2 hm4.q6 HCS.out.1); have hm5 := hm4.set6 hws HOK.out HJ.out; have HS5 := Lib.hid (vt_errno.put (c := #[.int .i64 0]) rfl (by simp [Value.oneCell']) hm5.q7 rfl); have HM6 := Lib.hid (hm5.set7 hws HOK.out HJ.out); clear hm4 hm5 hB4 HF hq HL HST; rw [HOKB.out])
          | (go_at_call 105; refine (gmust_ok _).mono ?_; rintro e W' ⟨rfl, rfl⟩)
          | ((with_reducible apply op_store); exact HST.out; exact rfl; exact rfl)
          | ((with_reducible apply op_store); exact HS4.out; exact rfl; exact rfl)
          | ((with_reducible apply op_store); exact HS5.out; exact rfl; exact rfl)
          | ((with_reducible apply op_load); exact HL4.out; exact rfl)
          | ((with_reducible apply op_loadG); exact HL.out; exact rfl; exact rfl))
        exact leavesV_ok HM6.out.q6 HCS.out.1 HM6.out.q7 hres rfl rfl (HM6.out.good HRW.out)
      | false =>
        have HRW := Lib.hid (readW_no HD.out hok)
        have HOKB := Lib.hid hok
        clear hok
        go_wp2_with (first
          | (go_at_call 70; refine HO.out.mono ?_; rintro e W2 ⟨hs2, hb2, hk2, ⟨hn, _⟩ | ⟨x', s', cs, he, rfl, hO, hR2, hl2, hj⟩⟩; exact absurd hn HND.out; obtain ⟨rfl, rfl⟩ : x = x' ∧ [] = s' := (by have e := HD.out.symm.trans he; simpa using e); obtain ⟨hcs, hcell⟩ := HOS.out W2 x cs hO; obtain ⟨h6, hm, p', c', hq⟩ := HM.out W2 cs hs2 hb2 hk2 hO hR2 hj; have HST := Lib.hid (vt_val.put hcs hcell h6 rfl); generalize W2.setRow W.heap.size cs = W3 at *; have HF := Lib.hid (HFN.out W3 x [] cs he hm.ok hm.b); have HL := Lib.hid (vt_val.get hcs hm.q6); have HMID := Lib.hid hm; have HCS := Lib.hid (And.intro hcs hcell); simp only [List.length_nil] at hq; clear hs2 hb2 hk2 he hO hR2 hl2 hj hcs hcell h6 hm HO HM HFN)
          | (go_at_call 72; refine HF.out.mono ?_; rintro e W4 ⟨rfl, hB4⟩; have HM4 := Lib.hid (HMID.out.below hws HOK.out HJ.out hB4); clear hB4 HF hq HL HST; rw [HOKB.out])
          | (go_at_call 105; refine (gmust_bad _).mono ?_; rintro e W' ⟨rfl, rfl⟩)
          | ((with_reducible apply op_store); exact HST.out; exact rfl; exact rfl)
          | ((with_reducible apply op_loadG); exact HL.out; exact rfl; exact rfl))
        exact leavesV_bad HM4.out.q6 HCS.out.1 HM4.out.q7 (by omega) hres rfl rfl fun W5 hT => HM4.out.bad hws hT HRW.out (by first | exact HND.out | exact fun h => h)
    · have HRW := Lib.hid (readW_left (ok := okB) HD.out hs)
      have hls : decide (((s.length : Int)) = 0) = false := by
        have : s.length ≠ 0 := fun h => hs (List.length_eq_zero_iff.1 h)
        simp only [decide_eq_false_iff_not]; omega
      have HS0 := Lib.hid hs
      clear hs
      go_wp2_with (first
        | (go_at_call 70; refine HO.out.mono ?_; rintro e W2 ⟨hs2, hb2, hk2, ⟨hn, _⟩ | ⟨x', s', cs, he, rfl, hO, hR2, hl2, hj⟩⟩; exact absurd hn HND.out; obtain ⟨rfl, rfl⟩ : x = x' ∧ s = s' := (by have e := HD.out.symm.trans he; simpa using e); obtain ⟨hcs, hcell⟩ := HOS.out W2 x cs hO; obtain ⟨h6, hm, p', c', hq⟩ := HM.out W2 cs hs2 hb2 hk2 hO hR2 hj; have HST := Lib.hid (vt_val.put hcs hcell h6 rfl); generalize W2.setRow W.heap.size cs = W3 at *; have HMID := Lib.hid hm; have HCS := Lib.hid (And.intro hcs hcell); clear hs2 hb2 hk2 he hO hR2 hl2 hj hcs hcell h6 hm HO HM HFN)
        | (go_at_call 105; refine (gmust_bad _).mono ?_; rintro e W' ⟨rfl, rfl⟩)
        | ((with_reducible apply op_store); exact HST.out; exact rfl; exact rfl))
      exact leavesV_bad HMID.out.q6 HCS.out.1 HMID.out.q7 (by omega) hres rfl rfl fun W5 hT => HMID.out.bad hws hT HRW.out (by first | exact HND.out | exact fun h => h)
end Go.Proofs.YthdfedfholmbmaaGreatDoor

namespace Go.Proofs.YthdfedfholmbmaaGreatDoor
open Go.RowKit
theorem leavesN_bad {fn : Func} {tmps : Array Value} {R : Ending → World → Prop} {W2 : World} {z : Array Value} {n : Int} {B6 B7 : Nat} (h6 : W2.heap[B6]? = some (.cells z 79 (0, 0))) (hz : z.size = 1) (h7 : W2.heap[B7]? = some (.cells #[.int .i64 n] 29 (0, 0))) (hne : B6 ≠ B7)
    (hres : fn.results = #[.cell 6 79, .cell 7 29]) (t6 : tmps.getD 6 undef = .pointer (some ⟨B6, 0, none⟩)) (t7 : tmps.getD 7 undef = .pointer (some ⟨B7, 0, none⟩))
    (hR : ∀ W3, Touch (fun x => x = B6 ∨ x = B7) W2 W3 → R (.returned (.tuple #[mk1 #[.int .u64 0], .int .i64 290])) W3) :
    Leaves Tryz.prog fn tmps R [{ target := .fn (.func 139) #[.pointer (some ⟨B6, 0, none⟩), .pointer (some ⟨B7, 0, none⟩)], args := #[] }] (.panicking [{ v := badV, recovered := false }]) W2 := by
  refine leaves_cons (f := 139) (args := #[.pointer (some ⟨B6, 0, none⟩), .pointer (some ⟨B7, 0, none⟩)]) (by simp) (enters_plain Tryz.func139 rfl rfl _ _) ((caughtN h6 hz h7 hne).mono ?_)
  rintro e u' w' ⟨rfl, rfl, g1, g2, gT⟩
  exact ⟨_, results_cells2 hres _ _ ⟨B6, 0, none⟩ ⟨B7, 0, none⟩ (mk1 #[.int .u64 0]) (.int .i64 290) t6 t7 (vt_u64.get rfl g1) (vt_errno.get rfl g2), hR _ gT⟩
theorem leavesN_ok {fn : Func} {tmps : Array Value} {R : Ending → World → Prop} {W2 : World} {z : Array Value} {B6 B7 : Nat} (h6 : W2.heap[B6]? = some (.cells z 79 (0, 0))) (hz : z.size = 1) (h7 : W2.heap[B7]? = some (.cells #[.int .i64 0] 29 (0, 0)))
    (hres : fn.results = #[.cell 6 79, .cell 7 29]) (t6 : tmps.getD 6 undef = .pointer (some ⟨B6, 0, none⟩)) (t7 : tmps.getD 7 undef = .pointer (some ⟨B7, 0, none⟩))
    (hR : R (.returned (.tuple #[mk1 z, .int .i64 0])) W2) :
    Leaves Tryz.prog fn tmps R [{ target := .fn (.func 139) #[.pointer (some ⟨B6, 0, none⟩), .pointer (some ⟨B7, 0, none⟩)], args := #[] }] .returning W2 := by
  refine leaves_cons (f := 139) (args := #[.pointer (some ⟨B6, 0, none⟩), .pointer (some ⟨B7, 0, none⟩)]) (by simp) (enters_plain Tryz.func139 rfl rfl _ _) ((idleN _ _ _).mono ?_)
  rintro e u' w' ⟨rfl, rfl, rfl⟩
  exact ⟨_, results_cells2 hres _ _ ⟨B6, 0, none⟩ ⟨B7, 0, none⟩ (mk1 z) (.int .i64 0) t6 t7 (vt_u64.get hz h6) (vt_errno.get rfl h7), hR⟩
theorem readN_any {α : Type} (d : Dec α) (okB : α → Bool) {w W : World} {p : Option Addr} {c : Nat} {bs : List UInt8} {a1 a2 : Option Addr} (hb : Below w.heap.size w W) (hrd : RdB w (.slice p bs.length c) bs) (hlb : bs.length ≤ 1000000) (X : Nat → Prop) (hX : ∀ b, X b → b < W.heap.size)
    (Jn : World → Prop) (hJn : ∀ W1 W2 : World, Jn W1 → (∀ b, b < W.heap.size → W2.heap[b]? = W1.heap[b]?) → Jn W2)
    (OK : World → α → Array Value → Prop) (hOKs : ∀ W1 x cs, OK W1 x cs → cs.size = 1 ∧ ∀ u ∈ cs.toList, u.oneCell' = true)
    (hOKk : ∀ (W1 W2 : World) x cs, OK W1 x cs → (∀ b, W.heap.size + 3 ≤ b → b < W1.heap.size → W2.heap[b]? = W1.heap[b]?) → OK W2 x cs)
    (one : ∀ W1 : World, W1.heap.size = W.heap.size + 3 → RSt 141 w W1 (W.heap.size + 2) bs → (∀ b, b < W.heap.size → W1.heap[b]? = W.heap[b]?) → Calls Tryz.prog 93 #[.pointer (some ⟨W.heap.size + 2, 0, none⟩), .pointer a1, .pointer a2] W1 fun e W2 =>
      W1.heap.size ≤ W2.heap.size ∧ Below w.heap.size w W2 ∧ (∀ b, b < W1.heap.size → b ≠ W.heap.size + 2 → ¬ X b → W2.heap[b]? = W1.heap[b]?) ∧ ((d bs = none ∧ e = given ∧ ∀ b, X b → W2.heap[b]? = W1.heap[b]?) ∨ ∃ x s cs, d bs = some (x, s) ∧ e = .returned (mk1 cs) ∧ OK W2 x cs ∧ RSt 141 w W2 (W.heap.size + 2) s ∧ s.length ≤ bs.length ∧ Jn W2))
    (fine : ∀ W1 x s cs, d bs = some (x, s) → OK W1 x cs → Below w.heap.size w W1 → Calls Tryz.prog 94 #[mk1 cs] W1 fun e W2 => e = .returned (.bool (okB x)) ∧ Below W1.heap.size W1 W2) :
    Calls Tryz.prog 92 #[.slice p bs.length c, .func (.func 93) #[] #[.pointer a1, .pointer a2], .func (.func 94) #[] #[]] W (ReadPost w W X mk1 #[.int .u64 0] OK Jn (d bs = none) (readW d okB bs)) := by
  have zl : (bs.length : Int) ≤ 1000000 := by omega
  have hws := hb.size
  have hb1 : Below W.heap.size W (((W.alloc (.cells #[.int .u64 0] 79)).alloc (.cells #[.int .i64 0] 29)).alloc (.cells #[.slice p bs.length c] 141)) := ((below_new _).alloc (by simp) _).alloc (by simp; omega) _
  have p6 : (((W.alloc (.cells #[.int .u64 0] 79)).alloc (.cells #[.int .i64 0] 29)).alloc (.cells #[.slice p bs.length c] 141)).heap[W.heap.size]? = some (.cells #[.int .u64 0] 79 (0, 0)) := by
    simp only [heap_get_alloc, World.size_alloc]; rw [if_neg (by omega), if_neg (by omega), if_pos trivial]
  have p7 : (((W.alloc (.cells #[.int .u64 0] 79)).alloc (.cells #[.int .i64 0] 29)).alloc (.cells #[.slice p bs.length c] 141)).heap[W.heap.size + 1]? = some (.cells #[.int .i64 0] 29 (0, 0)) := by
    simp only [heap_get_alloc, World.size_alloc]; rw [if_neg (by omega), if_pos trivial]
  have p8 : (((W.alloc (.cells #[.int .u64 0] 79)).alloc (.cells #[.int .i64 0] 29)).alloc (.cells #[.slice p bs.length c] 141)).heap[W.heap.size + 2]? = some (.cells #[.slice p bs.length c] 141 (0, 0)) := by
    have e : W.heap.size + 2 = W.heap.size + 1 + 1 := rfl
    rw [e]; simp only [heap_get_alloc, World.size_alloc]; rw [if_pos trivial]
  have hsz : (((W.alloc (.cells #[.int .u64 0] 79)).alloc (.cells #[.int .i64 0] 29)).alloc (.cells #[.slice p bs.length c] 141)).heap.size = W.heap.size + 3 := by simp
  have hone := one _ hsz ⟨below_trans hb hb1, by omega, p, c, p8, hrd⟩ (fun b hbb => hb1.block b hbb)
  have HO := Lib.hid hone
  have HP := Lib.hid (And.intro hb1 (And.intro p6 (And.intro p7 hsz)))
  have HFN := Lib.hid fine
  have HOS := Lib.hid hOKs
  have HOK := Lib.hid hOKk
  have HJ := Lib.hid hJn
  have HB0 := Lib.hid hb
  clear hone hb1 p6 p7 p8 fine hOKs hOKk hJn one hrd hb
  have back : ∀ W2 W3 : World, (((W.alloc (.cells #[.int .u64 0] 79)).alloc (.cells #[.int .i64 0] 29)).alloc (.cells #[.slice p bs.length c] 141)).heap.size ≤ W2.heap.size → (∀ b, b < (((W.alloc (.cells #[.int .u64 0] 79)).alloc (.cells #[.int .i64 0] 29)).alloc (.cells #[.slice p bs.length c] 141)).heap.size → b ≠ W.heap.size + 2 → ¬ X b → W2.heap[b]? = (((W.alloc (.cells #[.int .u64 0] 79)).alloc (.cells #[.int .i64 0] 29)).alloc (.cells #[.slice p bs.length c] 141)).heap[b]?) →
      W2.heap.size ≤ W3.heap.size → (∀ b, b < W2.heap.size → b ≠ W.heap.size → b ≠ W.heap.size + 1 → W3.heap[b]? = W2.heap[b]?) → W.heap.size ≤ W3.heap.size ∧ ∀ b, b < W.heap.size → ¬ X b → W3.heap[b]? = W.heap[b]? := by
    intro W2 W3 h1 h2 h3 h4
    have hs := HP.out.2.2.2
    exact ⟨by omega, fun b hb1 hbx => (h4 b (by omega) (by omega) (by omega)).trans ((h2 b (by omega) (by omega) hbx).trans (HP.out.1.block b hb1))⟩
  have HBK := Lib.hid back
  clear back
  refine calls_of_wp_defers Tryz.func92 rfl ?_
  simp only [Tryz.ntmps92, List.size_toArray, List.length_cons, List.length_nil, Nat.reduceAdd, Nat.reduceSub, Array.replicate_succ, Array.replicate_zero, List.push_toArray, List.append_toArray, List.nil_append, List.cons_append]
  have hres : Tryz.f92.results = #[.cell 6 79, .cell 7 29] := rfl
  cases hd : d bs with
  | none =>
    have HRW := Lib.hid (readW_none (ok := okB) hd)
    have HD := Lib.hid hd
    clear hd
    go_wp2_with (go_at_call 93; refine HO.out.mono ?_; rintro e W2 ⟨hs2, hb2, hk2, ⟨_, rfl, hx2⟩ | ⟨x, s, cs, he, _⟩⟩; rotate_left; exact absurd he (by rw [HD.out]; simp); have H2 := Lib.hid (And.intro hs2 (And.intro hb2 (And.intro hk2 hx2))); clear hs2 hb2 hk2 hx2)
    obtain ⟨hs2, hb2, hk2, hx2⟩ := H2.out
    obtain ⟨hb1, p6, p7, hsz⟩ := HP.out
    have hs3 : W.heap.size + 3 ≤ W2.heap.size := by omega
    refine leavesN_bad (n := 0) ((hk2 _ (by omega) (by omega) (fun h => by have := hX _ h; omega)).trans p6) rfl ((hk2 _ (by omega) (by omega) (fun h => by have := hX _ h; omega)).trans p7) (by omega) hres rfl rfl fun W3 hT => ?_
    obtain ⟨g1, g2⟩ := HBK.out W2 W3 hs2 hk2 hT.size (fun b hb h6 h7 => hT.block b hb (fun h => h.elim h6 h7))
    refine ⟨hT.below hb2 (fun b hb he => by omega) (by omega), g1, g2, ?_⟩
    rw [HRW.out]
    exact ⟨rfl, fun _ b hb => (hT.block b (by have := hX b hb; omega) (by have := hX b hb; omega)).trans ((hx2 b hb).trans (hb1.block b (hX b hb)))⟩
  | some pr =>
    obtain ⟨x, s⟩ := pr
    have HD := Lib.hid hd
    clear hd
    have hND : ¬ (d bs = none) := by rw [HD.out]; simp
    have HND := Lib.hid hND
    clear hND
    have mid : ∀ W2 cs, (((W.alloc (.cells #[.int .u64 0] 79)).alloc (.cells #[.int .i64 0] 29)).alloc (.cells #[.slice p bs.length c] 141)).heap.size ≤ W2.heap.size → Below w.heap.size w W2 → (∀ b, b < (((W.alloc (.cells #[.int .u64 0] 79)).alloc (.cells #[.int .i64 0] 29)).alloc (.cells #[.slice p bs.length c] 141)).heap.size → b ≠ W.heap.size + 2 → ¬ X b → W2.heap[b]? = (((W.alloc (.cells #[.int .u64 0] 79)).alloc (.cells #[.int .i64 0] 29)).alloc (.cells #[.slice p bs.length c] 141)).heap[b]?) →
        OK W2 x cs → RSt 141 w W2 (W.heap.size + 2) s → Jn W2 → W2.heap[W.heap.size]? = some (.cells #[.int .u64 0] 79 (0, 0)) ∧ RdMid 79 w W X OK Jn x cs (W2.setRow W.heap.size cs) ∧ ∃ p' c', (W2.setRow W.heap.size cs).cell? ⟨W.heap.size + 2, 0, none⟩ = some (.slice p' s.length c') := by
      intro W2 cs hs2 hb2 hk2 hO hR hj
      obtain ⟨hb1, p6, p7, hsz⟩ := HP.out
      have h6 := (hk2 W.heap.size (by omega) (by omega) (fun h => by have := hX _ h; omega)).trans p6
      obtain ⟨p', c', hq, _⟩ := hR.box
      exact ⟨h6, RdMid.first hws hX HOK.out HJ.out (by omega) hb2 (fun b hb hx => (hk2 b (by omega) (by omega) hx).trans (hb1.block b hb)) h6 ((hk2 (W.heap.size + 1) (by omega) (by omega) (fun h => by have := hX _ h; omega)).trans p7) hO hj,
        p', c', cellOf (o := 0) ((setRow_other W2 W.heap.size (W.heap.size + 2) cs (by omega)).trans hq) rfl⟩
    have HM := Lib.hid mid
    clear mid HP
    by_cases hs : s = []
    · subst hs
      cases hok : okB x with
      | true =>
        have HRW := Lib.hid (readW_yes HD.out hok)
        have HOKB := Lib.hid hok
        clear hok
        go_wp2_with (first
          | (go_at_call 93; refine HO.out.mono ?_; rintro e W2 ⟨hs2, hb2, hk2, ⟨hn, _⟩ | ⟨x', s', cs, he, rfl, hO, hR2, hl2, hj⟩⟩; exact absurd hn HND.out; obtain ⟨rfl, rfl⟩ : x = x' ∧ [] = s' := (by have e := HD.out.symm.trans he; simpa using e); obtain ⟨hcs, hcell⟩ := HOS.out W2 x cs hO; obtain ⟨h6, hm, p', c', hq⟩ := HM.out W2 cs hs2 hb2 hk2 hO hR2 hj; have HST := Lib.hid (vt_u64.put hcs hcell h6 rfl); generalize W2.setRow W.heap.size cs = W3 at *; have HF := Lib.hid (HFN.out W3 x [] cs he hm.ok hm.b); have HL := Lib.hid (vt_u64.get hcs hm.q6); have HMID := Lib.hid hm; have HCS := Lib.hid (And.intro hcs hcell); simp only [List.length_nil] at hq; clear hs2 hb2 hk2 he hO hR2 hl2 hj hcs hcell h6 hm HO HM HFN)
          | (go_at_call 94; refine HF.out.mono ?_; rintro e W4 ⟨rfl, hB4⟩; have hm4 := HMID.out.below hws HOK.out HJ.out hB4; have HL4 := Lib.hid (vt_u64.get HCS.out.1 hm4.q6); have HS4 := Lib.hid (vt_u64.put HCS.out.1 HCS.out.2 hm4.q6 HCS.out.1); have hm5 := hm4.set6 hws HOK.out HJ.out; have HS5 := Lib.hid (vt_errno.put (c := #[.int .i64 0]) rfl (by simp [Value.oneCell']) hm5.q7 rfl); have HM6 := Lib.hid (hm5.set7 hws HOK.out HJ.out); clear hm4 hm5 hB4 HF hq HL HST; rw [HOKB.out])
          | (go_at_call 105; refine (gmust_ok _).mono ?_; rintro e W' ⟨rfl, rfl⟩)
          | ((with_reducible apply op_store); exact HST.out; exact rfl; exact rfl)
          | ((with_reducible apply op_store); exact HS4.out; exact rfl; exact rfl)
          | ((with_reducible apply op_store); exact HS5.out; exact rfl; exact rfl)
          | ((with_reducible apply op_load); exact HL4.out; exact rfl)
          | ((with_reducible apply op_loadG); exact HL.out; exact rfl; exact rfl))
        exact leavesN_ok HM6.out.q6 HCS.out.1 HM6.out.q7 hres rfl rfl (HM6.out.good HRW.out)
      | false =>
        have HRW := Lib.hid (readW_no HD.out hok)
        have HOKB := Lib.hid hok
        clear hok
        go_wp2_with (first
          | (go_at_call 93; refine HO.out.mono ?_; rintro e W2 ⟨hs2, hb2, hk2, ⟨hn, _⟩ | ⟨x', s', cs, he, rfl, hO, hR2, hl2, hj⟩⟩; exact absurd hn HND.out; obtain ⟨rfl, rfl⟩ : x = x' ∧ [] = s' := (by have e := HD.out.symm.trans he; simpa using e); obtain ⟨hcs, hcell⟩ := HOS.out W2 x cs hO; obtain ⟨h6, hm, p', c', hq⟩ := HM.out W2 cs hs2 hb2 hk2 hO hR2 hj; have HST := Lib.hid (vt_u64.put hcs hcell h6 rfl); generalize W2.setRow W.heap.size cs = W3 at *; have HF := Lib.hid (HFN.out W3 x [] cs he hm.ok hm.b); have HL := Lib.hid (vt_u64.get hcs hm.q6); have HMID := Lib.hid hm; have HCS := Lib.hid (And.intro hcs hcell); simp only [List.length_nil] at hq; clear hs2 hb2 hk2 he hO hR2 hl2 hj hcs hcell h6 hm HO HM HFN)
          | (go_at_call 94; refine HF.out.mono ?_; rintro e W4 ⟨rfl, hB4⟩; have HM4 := Lib.hid (HMID.out.below hws HOK.out HJ.out hB4); clear hB4 HF hq HL HST; rw [HOKB.out])
          | (go_at_call 105; refine (gmust_bad _).mono ?_; rintro e W' ⟨rfl, rfl⟩)
          | ((with_reducible apply op_store); exact HST.out; exact rfl; exact rfl)
          | ((with_reducible apply op_loadG); exact HL.out; exact rfl; exact rfl))
        exact leavesN_bad HM4.out.q6 HCS.out.1 HM4.out.q7 (by omega) hres rfl rfl fun W5 hT => HM4.out.bad hws hT HRW.out (by first | exact HND.out | exact fun h => h)
    · have HRW := Lib.hid (readW_left (ok := okB) HD.out hs)
      have hls : decide (((s.length : Int)) = 0) = false := by
        have : s.length ≠ 0 := fun h => hs (List.length_eq_zero_iff.1 h)
        simp only [decide_eq_false_iff_not]; omega
      have HS0 := Lib.hid hs
      clear hs
      go_wp2_with (first
        | (go_at_call 93; refine HO.out.mono ?_; rintro e W2 ⟨hs2, hb2, hk2, ⟨hn, _⟩ | ⟨x', s', cs, he, rfl, hO, hR2, hl2, hj⟩⟩; exact absurd hn HND.out; obtain ⟨rfl, rfl⟩ : x = x' ∧ s = s' := (by have e := HD.out.symm.trans he; simpa using e); obtain ⟨hcs, hcell⟩ := HOS.out W2 x cs hO; obtain ⟨h6, hm, p', c', hq⟩ := HM.out W2 cs hs2 hb2 hk2 hO hR2 hj; have HST := Lib.hid (vt_u64.put hcs hcell h6 rfl); generalize W2.setRow W.heap.size cs = W3 at *; have HMID := Lib.hid hm; have HCS := Lib.hid (And.intro hcs hcell); clear hs2 hb2 hk2 he hO hR2 hl2 hj hcs hcell h6 hm HO HM HFN)
        | (go_at_call 105; refine (gmust_bad _).mono ?_; rintro e W' ⟨rfl, rfl⟩)
        | ((with_reducible apply op_store); exact HST.out; exact rfl; exact rfl))
      exact leavesN_bad HMID.out.q6 HCS.out.1 HMID.out.q7 (by omega) hres rfl rfl fun W5 hT => HMID.out.bad hws hT HRW.out (by first | exact HND.out | exact fun h => h)
end Go.Proofs.YthdfedfholmbmaaGreatDoor

namespace Go.Proofs.YthdfedfholmbmaaGreatDoor
open Go.RowKit
theorem tot_of {α : Type} {d : Dec α} {e : α → List UInt8} {P : α → Prop} {f : Rs → α × Rs} {sz : α → Nat} {R : α → Prop} (h : RT d e P) (g : DF f e P) (s : DS f sz R) {b r : List UInt8} {x : α} (hd : d b = some (x, r)) : sz x + r.length ≤ b.length ∧ R x := by
  obtain ⟨h1, h2⟩ := h.sound _ _ _ hd
  have h3 := g x r h2
  rw [← h1] at h3
  have h4 := s.size (b, false) (by rw [h3])
  have h5 := s.rng (b, false)
  rw [h3] at h4 h5
  exact ⟨h4, h5⟩
def errR {α : Type} (o : Option α) : Int := match o with
  | some _ => 0
  | none => 290
theorem results_cell_tmp2 {P : Program} {fn : Func} {p u : Tmp} {ty : TypeId} (h : fn.results = #[.cell p ty, .tmp u]) (tmps : Array Value) (w : World) (ad : Addr) (v : Value)
    (hp : tmps.getD p undef = .pointer (some ad)) (hl : (loadVar ty ad).run P w = .ok v w) : (results fn tmps).run P w = .ok (.tuple #[v, tmps.getD u undef]) w := by
  have hp' : tmps[p]?.getD undef = .pointer (some ad) := by simpa using hp
  simp [results, h, hp', asAddr, hl]
theorem one_of {α : Type} {d : Dec α} {w W1 W2 : World} {q : Nat} {bs : List UInt8} {n : Nat} {E : World → (Nat → Prop) → α → Array Value → Prop} {K : Nat} (hE : EL E K) (hn : W1.heap.size = n + 3) (hle : ∀ l' x s, d l' = some (x, s) → s.length ≤ l'.length) {e : Ending}
    (h : Reads w W1 q (d bs) (fun x v W' => ∃ cs, v = .agg cs ∧ E W' (fun b => W1.heap.size ≤ b) x cs) e W2) : W1.heap.size ≤ W2.heap.size ∧ Below w.heap.size w W2 ∧ (∀ b, b < W1.heap.size → b ≠ q → ¬ (fun _ => False : Nat → Prop) b → W2.heap[b]? = W1.heap[b]?) ∧
      ((d bs = none ∧ e = given ∧ ∀ b, (fun _ => False : Nat → Prop) b → W2.heap[b]? = W1.heap[b]?) ∨ ∃ x s cs, d bs = some (x, s) ∧ e = .returned (.agg cs) ∧ E W2 (fun b => n + 3 ≤ b) x cs ∧ RSt 141 w W2 q s ∧ s.length ≤ bs.length ∧ True) := by
  cases hd : d bs with
  | none =>
    rw [hd] at h
    obtain ⟨t, hb, rfl⟩ := h.none
    exact ⟨t.size, hb, fun b h1 h2 _ => t.keep b h1 h2, .inl ⟨rfl, rfl, fun b hb => hb.elim⟩⟩
  | some p =>
    obtain ⟨x, s⟩ := p
    rw [hd] at h
    obtain ⟨t, hb, v, rfl, ⟨cs, rfl, how⟩, hs⟩ := h.some
    exact ⟨t.size, hb, fun b h1 h2 _ => t.keep b h1 h2, .inr ⟨x, s, cs, rfl, rfl, hE.imp (fun b _ hb => by omega) how, hs, hle _ _ _ hd, trivial⟩⟩
def Got {α : Type} (E : World → (Nat → Prop) → α → Array Value → Prop) (z : α) (w : World) (o : Option α) (e : Ending) (W' : World) : Prop :=
  ∃ cs, e = .returned (.tuple #[.agg cs, .int .i64 (errR o)]) ∧ E W' (fun b => w.heap.size ≤ b) (o.getD z) cs ∧ Below w.heap.size w W'
theorem GrOwn.rd {w : World} {P : Nat → Prop} {g : GraphD} {x : Array Value} (h : GrOwn w P g x) (ht : totG g ≤ 900000) : GrRd w g x := by
  obtain ⟨vn, vr, rfl, h1, h2⟩ := h
  unfold totG at ht
  have k1 : g.nodes.length ≤ (g.nodes.map totN).sum := len_sum totN fun n _ => totN_pos n
  have k2 : g.rels.length ≤ (g.rels.map totR).sum := len_sum totR fun n _ => totR_pos n
  obtain ⟨pn, cn, rfl, e1⟩ := h1.rd el_node (F := NRd) (by omega) fun v hv x hx => hx.rd (by have := mem_sum totN hv; omega)
  obtain ⟨pr, cr, rfl, e2⟩ := h2.rd el_rel (F := RRd) (by omega) fun v hv x hx => hx.rd (by have := mem_sum totR hv; omega)
  exact ⟨pn, cn, pr, cr, rfl, e1, e2⟩
def graphZ : GraphD := ⟨[], [], 0, 0⟩
theorem graphZ_own {W : World} {P : Nat → Prop} : GrOwn W P graphZ #[.slice none 0 0, .slice none 0 0, .int .i64 0, .int .i64 0] := ⟨_, _, rfl, GOwn.nil, GOwn.nil⟩
def val0 : V := .mk 0 false 0 [] [] []
theorem val0_own {W : World} {P : Nat → Prop} : VOwn W P val0 #[.int .i64 0, .bool false, .int .i64 0, .string ⟨#[]⟩, .slice none 0 0, .slice none 0 0] := own_flat W P 0 false 0 []
theorem ef_graph : EF GrRd 4 := by
  refine ⟨fun h g => h.below g, fun h => ?_, fun h u hu => ?_⟩
  · obtain ⟨pn, cn, pr, cr, rfl, _⟩ := h; rfl
  · obtain ⟨pn, cn, pr, cr, rfl, _⟩ := h
    simp only [List.mem_cons, List.not_mem_nil, or_false] at hu
    rcases hu with rfl | rfl | rfl | rfl <;> rfl
theorem fineG_any {w : World} (hE : Env w) {g : GraphD} {x : Array Value} (h : GrRd w g x) (ht : totG g ≤ 900000) : Calls Tryz.prog 56 #[.agg x] w fun e w' => e = .returned (.bool (okG g)) ∧ Below w.heap.size w w' := by
  have hxs := ef_graph.size h
  have hb := below_new (w := w) (.cells x 25)
  have HL := Lib.hid (st_graph.get (P := Tryz.prog) hxs (heap_alloc_new w (.cells x 25)))
  have HC := Lib.hid (check_graph (hE.b hb) (h.below hb) (by omega))
  have HB := Lib.hid hb
  clear hE hb h
  have hd : decide (errG (okG g) = 0) = okG g := by cases okG g <;> rfl
  generalize errG (okG g) = er at *
  generalize okG g = r at *
  go_enter Tryz.func56, Tryz.ntmps56
  go_wp2_with (first
    | ((with_reducible apply op_load); exact HL.out; exact rfl)
    | (go_at_call 13; refine HC.out.mono ?_; rintro e W1 ⟨rfl, hb⟩; have HB2 := Lib.hid (below_trans HB.out hb); clear hb))
  go_ret
  have e : (er == 0) = r := by rw [← hd]; rfl
  exact ⟨by show Ending.returned (.bool (er == 0)) = _; rw [e], HB2.out⟩
theorem readPub_G {w : World} (hE : Env w) {p : Option Addr} {c : Nat} {bs : List UInt8} (hrd : RdB w (.slice p bs.length c) bs) (hl : bs.length ≤ 900000) :
    Calls Tryz.prog 16 #[.slice p bs.length c] w (Got GrOwn graphZ w (readW rdGraph okG bs)) := by
  have hb := below_new (w := w) (.cells #[.slice none 0 0, .slice none 0 0, .int .i64 0, .int .i64 0] 25)
  have hbx := heap_alloc_new w (.cells #[.slice none 0 0, .slice none 0 0, .int .i64 0, .int .i64 0] 25)
  have hsz : (w.alloc (.cells #[.slice none 0 0, .slice none 0 0, .int .i64 0, .int .i64 0] 25)).heap.size = w.heap.size + 1 := by simp
  have hR := readG_any rdGraph okG hb hrd (by omega) (fun _ => False) (fun b h => h.elim) (fun _ => True) (fun _ _ _ _ => trivial)
    (fun W1 x cs => GrOwn W1 (fun b => (w.alloc (.cells #[.slice none 0 0, .slice none 0 0, .int .i64 0, .int .i64 0] 25)).heap.size + 3 ≤ b) x cs) (fun W1 x cs h => ⟨el_graph.size h, el_graph.ones h⟩) (fun W1 W2 x cs h hk => el_graph.keep (fun b hb hlt => hk b hb hlt) h)
    (fun W1 hs hst hk => (rgraph_any hst (by omega)).mono fun e W2 h => one_of el_graph hs (fun l' x s hd => rt_graph.le hd) h)
    (fun W1 x s cs hd how hbw => by
      have ht := (tot_of rt_graph df_graph ds_graph hd).1
      exact fineG_any (hE.b hbw) (how.rd (by omega)) (by omega))
  have HR := Lib.hid hR
  have HB := Lib.hid (And.intro hb (And.intro hbx hsz))
  clear hE hrd hb hbx hsz hR
  generalize readW rdGraph okG bs = res at *
  go_enter Tryz.func16, Tryz.ntmps16
  cases res with
  | none =>
    go_wp2_with (first
      | (go_at_call 49; refine HR.out.mono ?_; rintro e W2 ⟨hb2, hs2, hk2, rfl, _⟩
         (
          obtain ⟨hb, hbx, hsz⟩ := HB.out
          have hbx2 := (hk2 w.heap.size (by omega) (fun h => h)).trans hbx
          have Hst_graph := Lib.hid (st_graph.put (cs := #[.slice none 0 0, .slice none 0 0, .int .i64 0, .int .i64 0]) rfl (by simp [Value.oneCell']) hbx2 rfl)
          have HLD := Lib.hid (st_graph.get (P := Tryz.prog) (cs := #[.slice none 0 0, .slice none 0 0, .int .i64 0, .int .i64 0]) rfl (setRow_heap W2 w.heap.size _ #[.slice none 0 0, .slice none 0 0, .int .i64 0, .int .i64 0] _ _ hbx2))
          have HF := Lib.hid (below_row (B := w.heap.size) hb2 (Nat.le_refl _) #[.slice none 0 0, .slice none 0 0, .int .i64 0, .int .i64 0])
          clear hb hbx hsz hb2 hs2 hk2 hbx2 HR))
      | ((with_reducible apply op_store); exact Hst_graph.out; exact rfl; exact rfl))
    refine bodyPost_ret (results_cell_tmp2 rfl _ _ ⟨w.heap.size, 0, none⟩ _ rfl HLD.out) rfl ?_
    exact ⟨#[.slice none 0 0, .slice none 0 0, .int .i64 0, .int .i64 0], rfl, graphZ_own, HF.out⟩
  | some x =>
    go_wp2_with (first
      | (go_at_call 49; refine HR.out.mono ?_; rintro e W2 ⟨hb2, hs2, hk2, cs, rfl, how, _⟩
         (
          obtain ⟨hb, hbx, hsz⟩ := HB.out
          have hbx2 := (hk2 w.heap.size (by omega) (fun h => h)).trans hbx
          have hcs := el_graph.size how
          have Hst_graph := Lib.hid (st_graph.put hcs (el_graph.ones how) hbx2 rfl)
          have HLD := Lib.hid (st_graph.get (P := Tryz.prog) hcs (setRow_heap W2 w.heap.size _ cs _ _ hbx2))
          have hown : GrOwn (W2.setRow w.heap.size cs) (fun b => w.heap.size ≤ b) x cs := el_graph.imp (fun b _ hb => by omega) (el_graph.keep (w' := W2.setRow w.heap.size cs) (fun b hb hlt => setRow_other W2 _ b _ (by omega)) how)
          have HF := Lib.hid (And.intro hown (below_row (B := w.heap.size) hb2 (Nat.le_refl _) cs))
          clear hb hbx hsz hb2 hs2 hk2 hbx2 HR how hcs hown))
      | ((with_reducible apply op_store); exact Hst_graph.out; exact rfl; exact rfl))
    refine bodyPost_ret (results_cell_tmp2 rfl _ _ ⟨w.heap.size, 0, none⟩ _ rfl HLD.out) rfl ?_
    exact ⟨cs, rfl, HF.out.1, HF.out.2⟩
theorem fineV_any {w : World} (hE : Env w) {g : V} {x : Array Value} (h : VRd w g x) (ht : totV g ≤ 900000) : Calls Tryz.prog 72 #[.agg x] w fun e w' => e = .returned (.bool (okV g)) ∧ Below w.heap.size w w' := by
  have hxs := ef_val.size h
  have hb := below_new (w := w) (.cells x 48)
  have HL := Lib.hid (st_val.get (P := Tryz.prog) hxs (heap_alloc_new w (.cells x 48)))
  have HC := Lib.hid (check_ok (hE.b hb) (h.below hb) (by omega))
  have HB := Lib.hid hb
  clear hE hb h
  have hd : decide (checkV Lib.validD g = 0) = okV g := by rfl
  generalize checkV Lib.validD g = er at *
  generalize okV g = r at *
  go_enter Tryz.func72, Tryz.ntmps72
  go_wp2_with (first
    | ((with_reducible apply op_load); exact HL.out; exact rfl)
    | (go_at_call 63; refine HC.out.mono ?_; rintro e W1 ⟨rfl, hb⟩; have HB2 := Lib.hid (below_trans HB.out hb); clear hb))
  go_ret
  have e : (er == 0) = r := by rw [← hd]; rfl
  exact ⟨by show Ending.returned (.bool (er == 0)) = _; rw [e], HB2.out⟩
theorem readPub_V {w : World} (hE : Env w) {p : Option Addr} {c : Nat} {bs : List UInt8} (hrd : RdB w (.slice p bs.length c) bs) (hl : bs.length ≤ 900000) :
    Calls Tryz.prog 23 #[.slice p bs.length c] w (Got VOwn val0 w (readW (rdVal 64) okV bs)) := by
  have hb := below_new (w := w) (.cells #[.int .i64 0, .bool false, .int .i64 0, .string ⟨#[]⟩, .slice none 0 0, .slice none 0 0] 48)
  have hbx := heap_alloc_new w (.cells #[.int .i64 0, .bool false, .int .i64 0, .string ⟨#[]⟩, .slice none 0 0, .slice none 0 0] 48)
  have hsz : (w.alloc (.cells #[.int .i64 0, .bool false, .int .i64 0, .string ⟨#[]⟩, .slice none 0 0, .slice none 0 0] 48)).heap.size = w.heap.size + 1 := by simp
  have hR := readV_any (rdVal 64) okV hb hrd (by omega) (fun _ => False) (fun b h => h.elim) (fun _ => True) (fun _ _ _ _ => trivial)
    (fun W1 x cs => VOwn W1 (fun b => (w.alloc (.cells #[.int .i64 0, .bool false, .int .i64 0, .string ⟨#[]⟩, .slice none 0 0, .slice none 0 0] 48)).heap.size + 3 ≤ b) x cs) (fun W1 x cs h => ⟨el_val.size h, el_val.ones h⟩) (fun W1 W2 x cs h hk => el_val.keep (fun b hb hlt => hk b hb hlt) h)
    (fun W1 hs hst hk => (rvalue1_any hst (by omega)).mono fun e W2 h => one_of el_val hs (fun l' x s hd => (rt_val 64).le hd) h)
    (fun W1 x s cs hd how hbw => by
      have ht := (tot_of (rt_val 64) (df_val 64) (ds_val 64) hd).1
      exact fineV_any (hE.b hbw) (how.rd (by omega)) (by omega))
  have HR := Lib.hid hR
  have HB := Lib.hid (And.intro hb (And.intro hbx hsz))
  clear hE hrd hb hbx hsz hR
  generalize readW (rdVal 64) okV bs = res at *
  go_enter Tryz.func23, Tryz.ntmps23
  cases res with
  | none =>
    go_wp2_with (first
      | (go_at_call 69; refine HR.out.mono ?_; rintro e W2 ⟨hb2, hs2, hk2, rfl, _⟩
         (
          obtain ⟨hb, hbx, hsz⟩ := HB.out
          have hbx2 := (hk2 w.heap.size (by omega) (fun h => h)).trans hbx
          have Hst_val := Lib.hid (st_val.put (cs := #[.int .i64 0, .bool false, .int .i64 0, .string ⟨#[]⟩, .slice none 0 0, .slice none 0 0]) rfl (by simp [Value.oneCell']) hbx2 rfl)
          have HLD := Lib.hid (st_val.get (P := Tryz.prog) (cs := #[.int .i64 0, .bool false, .int .i64 0, .string ⟨#[]⟩, .slice none 0 0, .slice none 0 0]) rfl (setRow_heap W2 w.heap.size _ #[.int .i64 0, .bool false, .int .i64 0, .string ⟨#[]⟩, .slice none 0 0, .slice none 0 0] _ _ hbx2))
          have HF := Lib.hid (below_row (B := w.heap.size) hb2 (Nat.le_refl _) #[.int .i64 0, .bool false, .int .i64 0, .string ⟨#[]⟩, .slice none 0 0, .slice none 0 0])
          clear hb hbx hsz hb2 hs2 hk2 hbx2 HR))
      | ((with_reducible apply op_store); exact Hst_val.out; exact rfl; exact rfl))
    refine bodyPost_ret (results_cell_tmp2 rfl _ _ ⟨w.heap.size, 0, none⟩ _ rfl HLD.out) rfl ?_
    exact ⟨#[.int .i64 0, .bool false, .int .i64 0, .string ⟨#[]⟩, .slice none 0 0, .slice none 0 0], rfl, val0_own, HF.out⟩
  | some x =>
    go_wp2_with (first
      | (go_at_call 69; refine HR.out.mono ?_; rintro e W2 ⟨hb2, hs2, hk2, cs, rfl, how, _⟩
         (
          obtain ⟨hb, hbx, hsz⟩ := HB.out
          have hbx2 := (hk2 w.heap.size (by omega) (fun h => h)).trans hbx
          have hcs := el_val.size how
          have Hst_val := Lib.hid (st_val.put hcs (el_val.ones how) hbx2 rfl)
          have HLD := Lib.hid (st_val.get (P := Tryz.prog) hcs (setRow_heap W2 w.heap.size _ cs _ _ hbx2))
          have hown : VOwn (W2.setRow w.heap.size cs) (fun b => w.heap.size ≤ b) x cs := el_val.imp (fun b _ hb => by omega) (el_val.keep (w' := W2.setRow w.heap.size cs) (fun b hb hlt => setRow_other W2 _ b _ (by omega)) how)
          have HF := Lib.hid (And.intro hown (below_row (B := w.heap.size) hb2 (Nat.le_refl _) cs))
          clear hb hbx hsz hb2 hs2 hk2 hbx2 HR how hcs hown))
      | ((with_reducible apply op_store); exact Hst_val.out; exact rfl; exact rfl))
    refine bodyPost_ret (results_cell_tmp2 rfl _ _ ⟨w.heap.size, 0, none⟩ _ rfl HLD.out) rfl ?_
    exact ⟨cs, rfl, HF.out.1, HF.out.2⟩
end Go.Proofs.YthdfedfholmbmaaGreatDoor

namespace Go.Proofs.YthdfedfholmbmaaGreatDoor
open Go.RowKit
theorem COwn.rd {w : World} {P : Nat → Prop} {c : ChangeD} {x : Array Value} (h : COwn w P c x) (ht : totC c ≤ 900000) : CRd w c x := by
  obtain ⟨a, b, e, h1, h2⟩ := h
  unfold totC at ht
  exact ⟨a, b, e, h1.rd (by omega), h2.rd (by omega)⟩
theorem results_tmp3 {P : Program} {fn : Func} {p q r : Tmp} (h : fn.results = #[.tmp p, .tmp q, .tmp r]) (tmps : Array Value) (w : World) : (results fn tmps).run P w = .ok (.tuple #[tmps.getD p undef, tmps.getD q undef, tmps.getD r undef]) w := by
  simp [results, h]
def gotN (bs : List UInt8) : Nat × Nat × Int := match rdN 0 0 bs with
  | some (n, r) => (n, bs.length - r.length, 0)
  | none => (0, 0, 290)
theorem readNum_call {w : World} {p : Option Addr} {c : Nat} {bs : List UInt8} (hrd : RdB w (.slice p bs.length c) bs) (hl : bs.length ≤ 900000) :
    Calls Tryz.prog 92 #[.slice p bs.length c, .func (.func 93) #[] #[.pointer (some ⟨w.heap.size, 0, none⟩), .pointer (some ⟨w.heap.size + 1, 0, none⟩)], .func (.func 94) #[] #[]]
      ((w.alloc (.cells #[.slice p bs.length c] 26)).alloc (.cells #[.int .i64 0] 3)) fun e W' => e = .returned (.tuple #[.int .u64 ((gotN bs).1 : Int), .int .i64 (gotN bs).2.2]) ∧ Below w.heap.size w W' ∧ W'.heap[w.heap.size + 1]? = some (.cells #[.int .i64 ((gotN bs).2.1 : Int)] 3 (0, 0)) := by
  have hb : Below w.heap.size w ((w.alloc (.cells #[.slice p bs.length c] 26)).alloc (.cells #[.int .i64 0] 3)) := (below_new _).alloc (by simp) _
  have hbb : ((w.alloc (.cells #[.slice p bs.length c] 26)).alloc (.cells #[.int .i64 0] 3)).heap[w.heap.size]? = some (.cells #[.slice p bs.length c] 26 (0, 0)) := belowBlk (below_new (w := w.alloc (.cells #[.slice p bs.length c] 26)) (.cells #[.int .i64 0] 3)) (by simp) (heap_alloc_new w _)
  have hnb : ((w.alloc (.cells #[.slice p bs.length c] 26)).alloc (.cells #[.int .i64 0] 3)).heap[w.heap.size + 1]? = some (.cells #[.int .i64 0] 3 (0, 0)) := by
    simp only [heap_get_alloc, World.size_alloc]; rw [if_pos trivial]
  have hsz : ((w.alloc (.cells #[.slice p bs.length c] 26)).alloc (.cells #[.int .i64 0] 3)).heap.size = w.heap.size + 2 := by simp
  generalize (w.alloc (.cells #[.slice p bs.length c] 26)).alloc (.cells #[.int .i64 0] 3) = W at *
  have hR := readN_any (W := W) (a1 := some ⟨w.heap.size, 0, none⟩) (a2 := some ⟨w.heap.size + 1, 0, none⟩) dNum (fun _ => true) hb hrd (by omega) (fun b => b = w.heap.size + 1) (fun b h => by omega)
    (fun W1 => W1.heap[w.heap.size + 1]? = some (.cells #[.int .i64 (kNum bs : Int)] 3 (0, 0))) (fun W1 W2 h hk => (hk _ (by omega)).trans h)
    (fun W1 x cs => cs = #[.int .u64 (x : Int)]) (fun W1 x cs h => by subst h; exact ⟨rfl, fun u hu => by simp only [List.mem_cons, List.not_mem_nil, or_false] at hu; subst hu; rfl⟩) (fun W1 W2 x cs h hk => h)
    (fun W1 hs hst hk => by
      have hn := rnumber1_any hst (by omega) ((hk w.heap.size (by omega)).trans hbb) ((hk (w.heap.size + 1) (by omega)).trans hnb) (by omega) (by omega) (by omega)
      refine hn.mono ?_
      rintro e W2 ⟨h1, h2, h3, h4⟩
      refine ⟨h1, h2, fun b hb1 hb2 hb3 => h3 b hb1 hb2 hb3, ?_⟩
      rcases h4 with ⟨g1, rfl, g3⟩ | ⟨n, r, g1, rfl, g3, g4⟩
      · exact .inl ⟨by unfold dNum; rw [g1]; rfl, rfl, fun b hb => by subst hb; exact g3⟩
      · exact .inr ⟨n, [], #[.int .u64 (n : Int)], by unfold dNum; rw [g1]; rfl, rfl, rfl, g3, by simp, by unfold kNum; rw [g1]; exact g4⟩)
    (fun W1 x s cs hd how hbw => by subst how; exact anyNumber _ W1)
  refine hR.mono ?_
  rintro e W' ⟨h1, h2, h3, h4⟩
  cases hd : rdN 0 0 bs with
  | none =>
    have hg : readW dNum (fun _ => true) bs = none := by unfold readW dNum; rw [hd]; rfl
    rw [hg] at h4
    obtain ⟨rfl, h5⟩ := h4
    have e1 : gotN bs = (0, 0, 290) := by unfold gotN; rw [hd]
    rw [e1]
    exact ⟨rfl, h1, (h5 (by unfold dNum; rw [hd]; rfl) _ rfl).trans hnb⟩
  | some pp =>
    obtain ⟨n, r⟩ := pp
    have hg : readW dNum (fun _ => true) bs = some n := by unfold readW dNum; rw [hd]; rfl
    rw [hg] at h4
    obtain ⟨cs, rfl, rfl, h5⟩ := h4
    have e1 : gotN bs = (n, bs.length - r.length, 0) := by unfold gotN; rw [hd]
    have e2 : kNum bs = bs.length - r.length := by unfold kNum; rw [hd]
    rw [e2] at h5
    rw [e1]
    exact ⟨rfl, h1, h5⟩
theorem readPub_N {w : World} {p : Option Addr} {c : Nat} {bs : List UInt8} (hrd : RdB w (.slice p bs.length c) bs) (hl : bs.length ≤ 900000) :
    Calls Tryz.prog 37 #[.slice p bs.length c] w fun e W' => e = .returned (.tuple #[.int .u64 ((gotN bs).1 : Int), .int .i64 ((gotN bs).2.1 : Int), .int .i64 (gotN bs).2.2]) ∧ Below w.heap.size w W' := by
  have HR := Lib.hid (readNum_call hrd hl)
  clear hrd
  generalize gotN bs = res at *
  go_enter Tryz.func37, Tryz.ntmps37
  go_wp2_with (go_at_call 92; refine HR.out.mono ?_; rintro e W2 ⟨rfl, hb, hn⟩; have HB := Lib.hid (And.intro hb hn); clear hb hn HR)
  obtain ⟨hb, hn⟩ := HB.out
  have hd : W2.drew.heap[w.heap.size + 1]? = some (.cells #[.int .i64 (res.2.1 : Int)] 3 (0, 0)) := hn
  refine plain_region_draws (fun W => W.cell? ⟨w.heap.size + 1, 0, none⟩ = some (.int .i64 (res.2.1 : Int))) (by kernel_rfl) (cellOf (o := 0) hd rfl) (fun hS => ?_)
  refine tk 0 14 (v := .int .u64 (res.1 : Int)) rfl rfl (fun W hW => exec_move rfl rfl) ?_
  simp only [Act.put, sA, sZ, sS]
  refine tk 1 15 (v := .int .i64 (res.2.1 : Int)) rfl rfl (fun W hW => exec_load rfl rfl (run_load1 (w := W) Tryz.underlying3 rfl hW)) ?_
  simp only [Act.put, sA, sZ, sS]
  refine tk 2 16 (v := .int .i64 res.2.2) rfl rfl (fun W hW => exec_move rfl rfl) ?_
  simp only [Act.put, sA, sZ, sS]
  refine tk 3 2 (v := .int .u64 (res.1 : Int)) rfl rfl (fun W hW => exec_assign rfl rfl) ?_
  simp only [Act.put, sA, sZ, sS]
  refine tk 4 3 (v := .int .i64 (res.2.1 : Int)) rfl rfl (fun W hW => exec_assign rfl rfl) ?_
  simp only [Act.put, sA, sZ, sS]
  refine tk 5 4 (v := .int .i64 res.2.2) rfl rfl (fun W hW => exec_assign rfl rfl) ?_
  simp only [Act.put, sA, sZ, sS]
  refine done (by kernel_rfl) ?_ _
  have HF := Lib.hid hb.drew
  clear hb hn hd hS HB
  go_wp2
  refine bodyPost_ret (results_tmp3 rfl _ _) rfl ?_
  exact ⟨rfl, HF.out⟩
end Go.Proofs.YthdfedfholmbmaaGreatDoor

namespace Go.Proofs.YthdfedfholmbmaaGreatDoor
open Go.RowKit
theorem num_err (n : Int) (w : World) : Calls Tryz.prog 12 #[.int .i64 n] w fun e w' => e = .returned (.int .i64 n) ∧ w = w' := by
  go_enter Tryz.func12, Tryz.ntmps12
  go_wp2
  go_ret
  exact ⟨rfl, rfl⟩
theorem eql_bytesS (a b : List UInt8) (W : World) : (binOp .eql 9 (.string (strB a)) (.string (strB b))).run Tryz.prog W = .ok (.bool (decide (a = b))) W := by
  have e : (strB a = strB b) ↔ a = b := strB_inj
  by_cases h : a = b
  · subst h; simp [go_sem]
  · rw [decide_eq_false h]
    simp [go_sem, strB_toList, h]
theorem bytes_any {w : World} {p p2 : Option Addr} {c c2 : Nat} {l m : List UInt8} (h : RdB w (.slice p l.length c) l) (h2 : RdB w (.slice p2 m.length c2) m) : Calls Tryz.prog 14 #[.slice p l.length c, .slice p2 m.length c2] w fun e w' => e = .returned (.bool (decide (l = m))) ∧ w = w' := by
  have H1 := Lib.hid (bytes_str h)
  have H2 := Lib.hid (bytes_str h2)
  have H3 := Lib.hid (eql_bytesS l m)
  clear h h2
  generalize strB l = x at *
  generalize strB m = y at *
  generalize decide (l = m) = r at *
  go_enter Tryz.func14, Tryz.ntmps14
  go_wp2_with (first
    | ((with_reducible apply op_conv); exact H1.out; exact rfl)
    | ((with_reducible apply op_conv); exact H2.out; exact rfl)
    | (refine wpList_run rfl (exec_bins rfl rfl rfl (H3.out _)) ?_))
  go_ret
  exact ⟨rfl, rfl⟩
theorem own_rdB {w : World} {P : Nat → Prop} {o : Value} {l : List UInt8} (h : OwnsP w P 5 1 o l.length (l.map byteV)) : ∃ p c, o = .slice p l.length c ∧ RdB w (.slice p l.length c) l := by
  have hc := fun g => h.1.cells (g := g)
  rcases h.1.2 with ⟨rfl, h0⟩ | ⟨g, cap, cur, rfl, _, hg, hnc, hcm, _⟩
  · have : l = [] := List.eq_nil_of_length_eq_zero h0
    subst this
    exact ⟨none, 0, rfl, none, 0, rfl, ⟨Nat.le_refl _, by simp [maxLen], fun _ => rfl⟩, fun ad had => by cases had⟩
  · refine ⟨some ⟨g, 0, none⟩, cap, rfl, some ⟨g, 0, none⟩, cap, rfl, ⟨hnc, hcm, fun h => by cases h⟩, fun ad had => ⟨fun _ => by cases had; rfl, fun i b hb => ?_⟩⟩
    cases had
    have := hc g rfl i (byteV b) (by rw [List.getElem?_map, hb]; rfl)
    rw [addr_add] at this
    simpa [byteV] using this
theorem lit_rd {W : World} {g : Nat} {cs : Array Value} {T : TypeId} {l : List UInt8} (h : W.heap[g]? = some (.cells cs T (0, 0))) (hc : cs.toList = l.map byteV) (hl : l.length ≤ 1000000) : RdB W (.slice (some ⟨g, 0, none⟩) l.length l.length) l := by
  refine ⟨some ⟨g, 0, none⟩, l.length, rfl, ⟨Nat.le_refl _, by unfold maxLen; omega, fun h => by cases h⟩, fun ad had => ⟨fun _ => by cases had; rfl, fun i b hb => ?_⟩⟩
  cases had
  refine cellOf (o := 0 + i) h ?_
  rw [Nat.zero_add, ← Array.getElem?_toList, hc, List.getElem?_map, hb]
  rfl
def wkGraph : GraphD := ⟨[⟨0, [[65]], []⟩], [], 1, 0⟩
theorem wk_okNm : okNm [65] = true := by
  unfold okNm
  have : Lib.validD [65] = true := by rfl
  rw [this]; rfl
theorem wk_okG : okG wkGraph = true := by
  unfold okG okSz okNs okRs okN wkGraph okPs
  simp [risesB, risesI, wk_okNm]
theorem wk_graphC : graphC wkGraph = [1, 0, 1, 1, 65, 0, 0, 1, 0] := by
  unfold graphC rowsC nodeC wkGraph rowsC textC toU
  simp [numB_low]
theorem wk_rng : rngG wkGraph := by
  unfold rngG rngN rngR rngP wkGraph i64T
  simp
theorem wk_tot : totG wkGraph = 3 := rfl
theorem wk_wf : wfG wkGraph := wf_of_okG wk_okG wk_rng (by rw [wk_tot]; omega)
theorem wk_readG : readW rdGraph okG [1, 0, 1, 1, 65, 0, 0, 1, 0] = some wkGraph := by
  rw [← wk_graphC]
  exact readW_of rt_graph wk_wf wk_okG
def wkChange : ChangeD := ⟨2, 5, 0, node0, rel0⟩
theorem wk_okC : ([wkChange] : List ChangeD).all okC = true := by
  unfold okC wkChange
  simp
theorem wk_changesC : changesC [wkChange] = [1, 2, 10] := by
  unfold changesC rowsC changeC wkChange zzN
  simp [numB_low]
theorem wk_readV : readW (rdVal 64) okV [0, 0] = none := by
  have : rdVal 64 [0, 0] = some (.mk 0 false 0 [] [] [], [0]) := by
    rfl
  unfold readW
  rw [this]
theorem wk_readN : gotN [172, 2, 7] = (300, 2, 0) := by
  unfold gotN
  have h := rt_num.full 300 [7] (by unfold u64T; omega)
  have e : numB 300 = [172, 2] := by rw [numB_high (by omega), numB_low (by omega)]; rfl
  rw [e] at h
  have e2 : ([172, 2] : List UInt8) ++ [7] = [172, 2, 7] := rfl
  rw [e2] at h
  rw [h]
  rfl
end Go.Proofs.YthdfedfholmbmaaGreatDoor

namespace Go.Proofs.YthdfedfholmbmaaGreatDoor
open Go.RowKit
theorem rds_one {W : World} {g : Nat} {T : TypeId} {s : List UInt8} (h : W.heap[g]? = some (.cells #[.string (strB s)] T (0, 0))) (hs : s.length ≤ 1000000) : RdS W (some ⟨g, 0, none⟩) 1 [s] := by
  refine ⟨Nat.le_refl _, ⟨by simp, by omega⟩, (fun h => by cases h), (fun x hx => by simp at hx; subst hx; omega), fun ad had => ⟨fun _ => by cases had; rfl, fun i t ht => ?_⟩⟩
  cases had
  match i, ht with
  | 0, ht => cases ht; exact cellOf (o := 0) h rfl
  | n + 1, ht => simp at ht
theorem wk_graph_rd {w : World} : GrRd (((w.alloc (.cells #[.string ⟨#[65]⟩] 9)).alloc (.cells #[.int .i64 0, .slice (some ⟨w.heap.size, 0, none⟩) 1 1, .slice none 0 0] 70)).alloc (.cells #[.slice (some ⟨w.heap.size + 1, 0, none⟩) 1 1, .slice none 0 0, .int .i64 1, .int .i64 0] 25)) wkGraph
    #[.slice (some ⟨w.heap.size + 1, 0, none⟩) 1 1, .slice none 0 0, .int .i64 1, .int .i64 0] := by
  have h1 : (((w.alloc (.cells #[.string ⟨#[65]⟩] 9)).alloc (.cells #[.int .i64 0, .slice (some ⟨w.heap.size, 0, none⟩) 1 1, .slice none 0 0] 70)).alloc (.cells #[.slice (some ⟨w.heap.size + 1, 0, none⟩) 1 1, .slice none 0 0, .int .i64 1, .int .i64 0] 25)).heap[w.heap.size + 1]? = some (.cells #[.int .i64 0, .slice (some ⟨w.heap.size, 0, none⟩) 1 1, .slice none 0 0] 70 (0, 0)) := by
    simp only [heap_get_alloc, World.size_alloc]; rw [if_neg (by omega), if_pos trivial]
  have h0 : (((w.alloc (.cells #[.string ⟨#[65]⟩] 9)).alloc (.cells #[.int .i64 0, .slice (some ⟨w.heap.size, 0, none⟩) 1 1, .slice none 0 0] 70)).alloc (.cells #[.slice (some ⟨w.heap.size + 1, 0, none⟩) 1 1, .slice none 0 0, .int .i64 1, .int .i64 0] 25)).heap[w.heap.size]? = some (.cells #[.string ⟨#[65]⟩] 9 (0, 0)) := by
    simp only [heap_get_alloc, World.size_alloc]; rw [if_neg (by omega), if_neg (by omega), if_pos trivial]
  refine ⟨some ⟨w.heap.size + 1, 0, none⟩, 1, none, 0, rfl, grd_one h1 rfl ?_, grd_none⟩
  exact ⟨some ⟨w.heap.size, 0, none⟩, 1, none, 0, rfl, rds_one (s := [65]) h0 (by simp), grd_none⟩
theorem wk_callG {w : World} (hE : Env w) : Calls Tryz.prog 11 #[.agg #[.slice (some ⟨w.heap.size + 1, 0, none⟩) 1 1, .slice none 0 0, .int .i64 1, .int .i64 0]]
    (((w.alloc (.cells #[.string ⟨#[65]⟩] 9)).alloc (.cells #[.int .i64 0, .slice (some ⟨w.heap.size, 0, none⟩) 1 1, .slice none 0 0] 70)).alloc (.cells #[.slice (some ⟨w.heap.size + 1, 0, none⟩) 1 1, .slice none 0 0, .int .i64 1, .int .i64 0] 25)) fun e W => ∃ p c, e = .returned (.tuple #[.slice p 9 c, .int .i64 0]) ∧ RdB W (.slice p 9 c) [1, 0, 1, 1, 65, 0, 0, 1, 0] ∧ Below w.heap.size w W := by
  have hb : Below w.heap.size w (((w.alloc (.cells #[.string ⟨#[65]⟩] 9)).alloc (.cells #[.int .i64 0, .slice (some ⟨w.heap.size, 0, none⟩) 1 1, .slice none 0 0] 70)).alloc (.cells #[.slice (some ⟨w.heap.size + 1, 0, none⟩) 1 1, .slice none 0 0, .int .i64 1, .int .i64 0] 25)) := ((below_new _).alloc (by simp) _).alloc (by simp; omega) _
  refine (codecGraph_any (hE.b hb) wk_graph_rd wk_rng (by rw [wk_tot]; omega)).mono ?_
  rintro e W ⟨o, rfl, ho, hbw⟩
  have e1 : outG wkGraph = [1, 0, 1, 1, 65, 0, 0, 1, 0] := by unfold outG; rw [wk_okG, wk_graphC]; rfl
  rw [e1] at ho
  obtain ⟨p, c, rfl, hr⟩ := own_rdB ho
  exact ⟨p, c, by rw [wk_okG]; rfl, hr, below_trans hb hbw⟩
theorem wk_callRG {W : World} (hE : Env W) {p : Option Addr} {c : Nat} (h : RdB W (.slice p 9 c) [1, 0, 1, 1, 65, 0, 0, 1, 0]) : Calls Tryz.prog 16 #[.slice p 9 c] W fun e W' => ∃ pn cn vr, e = .returned (.tuple #[.agg #[.slice pn 1 cn, vr, .int .i64 1, .int .i64 0], .int .i64 0]) ∧ vr.oneCell' = true ∧ Below W.heap.size W W' := by
  refine (readPub_G (bs := [1, 0, 1, 1, 65, 0, 0, 1, 0]) hE h (by simp)).mono ?_
  rintro e W' ⟨cs, rfl, ho, hb⟩
  rw [wk_readG] at ho ⊢
  obtain ⟨vn, vr, rfl, h1, h2⟩ := ho
  obtain ⟨pn, cn, rfl⟩ := h1.slice
  refine ⟨pn, cn, vr, rfl, ?_, hb⟩
  obtain ⟨xs, h3, _⟩ := h2
  exact own_one h3
abbrev wkCh : Array Value := #[.int .i64 2, .int .i64 5, .int .i64 0, .int .i64 0, .slice none 0 0, .slice none 0 0, .int .i64 0, .int .i64 0, .int .i64 0, .string ⟨#[]⟩, .slice none 0 0]
theorem wk_change_rd {W : World} : CRd W wkChange wkCh :=
  ⟨#[.int .i64 0, .slice none 0 0, .slice none 0 0], #[.int .i64 0, .int .i64 0, .int .i64 0, .string ⟨#[]⟩, .slice none 0 0], rfl, ⟨none, 0, none, 0, rfl, ⟨Nat.le_refl _, ⟨by simp [wkChange, node0], by omega⟩, fun _ => rfl, fun s hs => (by simp [wkChange, node0] at hs), fun ad h => by cases h⟩, grd_none⟩, ⟨none, 0, rfl, by simp [wkChange, rel0], grd_none⟩⟩
theorem wk_callC {W : World} (hE : Env W) : Calls Tryz.prog 27 #[.slice (some ⟨W.heap.size, 0, none⟩) 1 1] (W.alloc (.cells wkCh 74)) fun e W' => ∃ p c, e = .returned (.tuple #[.slice p 3 c, .int .i64 0]) ∧ RdB W' (.slice p 3 c) [1, 2, 10] ∧ Below W.heap.size W W' := by
  have hb := below_new (w := W) (.cells wkCh 74)
  have hx := heap_alloc_new W (.cells wkCh 74)
  refine (codecChanges_any (l := [wkChange]) (hE.b hb) (grd_one hx rfl wk_change_rd) (fun x hx => ?_) (by simp [wkChange, totC, totN, totR, node0, rel0, totLs, totPs])).mono ?_
  · simp only [List.mem_cons, List.not_mem_nil, or_false] at hx
    subst hx
    exact ⟨by unfold wkChange i64T; simp, by unfold wkChange i64T; simp, by unfold wkChange i64T; simp, rng_node0, rng_rel0⟩
  · rintro e W' ⟨o, rfl, ho, hbw⟩
    have e1 : outC [wkChange] = [1, 2, 10] := by unfold outC; rw [wk_okC, wk_changesC]; rfl
    have e2 : errC [wkChange] = 0 := by unfold errC; rw [wk_okC]; rfl
    rw [e1] at ho
    obtain ⟨p, c, rfl, hr⟩ := own_rdB ho
    exact ⟨p, c, by rw [e2]; rfl, hr, below_trans hb hbw⟩
theorem wk_callRV {W : World} (hE : Env W) : Calls Tryz.prog 23 #[.slice (some ⟨W.heap.size, 0, none⟩) 2 2] (W.alloc (.cells #[.int .u8 0, .int .u8 0] 5)) fun e W' => ∃ cs, e = .returned (.tuple #[.agg cs, .int .i64 290]) ∧ (cs.size = 6 ∧ ∀ u ∈ cs.toList, u.oneCell' = true) ∧ Below W.heap.size W W' := by
  have hb := below_new (w := W) (.cells #[.int .u8 0, .int .u8 0] 5)
  have hx := heap_alloc_new W (.cells #[.int .u8 0, .int .u8 0] 5)
  refine (readPub_V (bs := [0, 0]) (hE.b hb) (lit_rd (l := [0, 0]) hx rfl (by simp)) (by simp)).mono ?_
  rintro e W' ⟨cs, rfl, ho, hbw⟩
  rw [wk_readV] at ho ⊢
  exact ⟨cs, rfl, ⟨ho.size6, ho.ones⟩, below_trans hb hbw⟩
theorem wk_callRN {W : World} : Calls Tryz.prog 37 #[.slice (some ⟨W.heap.size, 0, none⟩) 3 3] (W.alloc (.cells #[.int .u8 172, .int .u8 2, .int .u8 7] 5)) fun e W' => e = .returned (.tuple #[.int .u64 300, .int .i64 2, .int .i64 0]) ∧ Below W.heap.size W W' := by
  have hb := below_new (w := W) (.cells #[.int .u8 172, .int .u8 2, .int .u8 7] 5)
  have hx := heap_alloc_new W (.cells #[.int .u8 172, .int .u8 2, .int .u8 7] 5)
  refine (readPub_N (bs := [172, 2, 7]) (lit_rd (l := [172, 2, 7]) hx rfl (by simp)) (by simp)).mono ?_
  rintro e W' ⟨rfl, hbw⟩
  rw [wk_readN]
  exact ⟨rfl, below_trans hb hbw⟩
abbrev wkL9 : Array Value := #[.int .u8 1, .int .u8 0, .int .u8 1, .int .u8 1, .int .u8 65, .int .u8 0, .int .u8 0, .int .u8 1, .int .u8 0]
abbrev wkL3 : Array Value := #[.int .u8 1, .int .u8 2, .int .u8 10]
theorem wk_bytes9 {W : World} {p : Option Addr} {c : Nat} (h : RdB W (.slice p 9 c) [1, 0, 1, 1, 65, 0, 0, 1, 0]) : Calls Tryz.prog 14 #[.slice p 9 c, .slice (some ⟨W.heap.size, 0, none⟩) 9 9] (W.alloc (.cells wkL9 5)) fun e W' => e = .returned (.bool true) ∧ W.alloc (.cells wkL9 5) = W' := by
  have hb := below_new (w := W) (.cells wkL9 5)
  refine (bytes_any (l := [1, 0, 1, 1, 65, 0, 0, 1, 0]) (m := [1, 0, 1, 1, 65, 0, 0, 1, 0]) (h.below hb) (lit_rd (l := [1, 0, 1, 1, 65, 0, 0, 1, 0]) (heap_alloc_new W (.cells wkL9 5)) rfl (by simp))).mono ?_
  rintro e W' ⟨rfl, rfl⟩
  exact ⟨rfl, rfl⟩
theorem wk_bytes3 {W : World} {p : Option Addr} {c : Nat} (h : RdB W (.slice p 3 c) [1, 2, 10]) : Calls Tryz.prog 14 #[.slice p 3 c, .slice (some ⟨W.heap.size, 0, none⟩) 3 3] (W.alloc (.cells wkL3 5)) fun e W' => e = .returned (.bool true) ∧ W.alloc (.cells wkL3 5) = W' := by
  have hb := below_new (w := W) (.cells wkL3 5)
  refine (bytes_any (l := [1, 2, 10]) (m := [1, 2, 10]) (h.below hb) (lit_rd (l := [1, 2, 10]) (heap_alloc_new W (.cells wkL3 5)) rfl (by simp))).mono ?_
  rintro e W' ⟨rfl, rfl⟩
  exact ⟨rfl, rfl⟩
theorem worksG_any {w : World} (hE : Env w) : Calls Tryz.prog 10 #[] w fun e w' => e = .returned (.bool true) ∧ Below w.heap.size w w' := by
  have HG := Lib.hid (wk_callG hE)
  have HE := Lib.hid hE
  clear hE
  go_enter Tryz.func10, Tryz.ntmps10
  go_wp2_with (first
    | (go_at_call 11; refine HG.out.mono ?_; rintro e W2 ⟨p, c, rfl, hr, hb⟩; have H2 := Lib.hid (And.intro hr hb); clear hr hb HG)
    | (go_at_call 16; refine (wk_callRG (HE.out.b H2.out.2) H2.out.1).mono ?_; rintro e W3 ⟨pn, cn, vr, rfl, hv, hb⟩
       (
        have HS := Lib.hid (st_graph.fresh (P := Tryz.prog) (W := W3) (cs := #[.slice pn 1 cn, vr, .int .i64 1, .int .i64 0]) rfl (by intro u hu; simp only [List.mem_cons, List.not_mem_nil, or_false] at hu; rcases hu with rfl | rfl | rfl | rfl <;> first | rfl | assumption))
        have H3 := Lib.hid (And.intro (H2.out.1.below hb) (below_trans H2.out.2 hb))
        clear hv hb H2))
    | ((with_reducible apply op_store); exact HS.out _ rfl; exact rfl; exact rfl
       (
        have hbn := below_new (w := W3) (.cells #[.slice pn 1 cn, vr, .int .i64 1, .int .i64 0] 25)
        have H4 := Lib.hid (And.intro (H3.out.1.below hbn) (And.intro (below_trans H3.out.2 hbn) (heap_alloc_new W3 (.cells #[.slice pn 1 cn, vr, .int .i64 1, .int .i64 0] 25))))
        clear hbn HS H3
        generalize W3.alloc (.cells #[.slice pn 1 cn, vr, .int .i64 1, .int .i64 0] 25) = W4 at *
        generalize W3.heap.size = B4 at *
        have HC := Lib.hid (wk_callC (HE.out.b H4.out.2.1))))
    | (go_at_call 27
       (
        refine HC.out.mono ?_; rintro e W5 ⟨p5, c5, rfl, hr5, hb⟩
        have H5 := Lib.hid (And.intro (H4.out.1.below hb) (And.intro (below_trans H4.out.2.1 hb) (And.intro (belowBlk hb (Array.getElem?_eq_some_iff.1 H4.out.2.2).1 H4.out.2.2) hr5)))
        clear hb hr5 HC H4
        have HV := Lib.hid (wk_callRV (HE.out.b H5.out.2.1))))
    | (go_at_call 23
       (
        refine HV.out.mono ?_; rintro e W6 ⟨cv, rfl, hcv, hb⟩
        have HS2 := Lib.hid (st_val.fresh (P := Tryz.prog) (W := W6) hcv.1 hcv.2)
        have H6 := Lib.hid (And.intro (H5.out.1.below hb) (And.intro (below_trans H5.out.2.1 hb) (And.intro (belowBlk hb (Array.getElem?_eq_some_iff.1 H5.out.2.2.1).1 H5.out.2.2.1) (H5.out.2.2.2.below hb))))
        clear hb hcv HV H5))
    | ((with_reducible apply op_store); exact HS2.out _ rfl; exact rfl; exact rfl
       (
        have hbn := below_new (w := W6) (.cells cv 48)
        have H7 := Lib.hid (And.intro (H6.out.1.below hbn) (And.intro (below_trans H6.out.2.1 hbn) (And.intro (belowBlk hbn (Array.getElem?_eq_some_iff.1 H6.out.2.2.1).1 H6.out.2.2.1) (H6.out.2.2.2.below hbn))))
        clear hbn HS2 H6
        generalize W6.alloc (.cells cv 48) = W7 at *
        generalize W6.heap.size = B6 at *
        have HN := Lib.hid (wk_callRN (W := W7))))
    | (go_at_call 37
       (
        refine HN.out.mono ?_; rintro e W8 ⟨rfl, hb⟩
        have H8 := Lib.hid (And.intro (H7.out.1.below hb) (And.intro (below_trans H7.out.2.1 hb) (And.intro (belowBlk hb (Array.getElem?_eq_some_iff.1 H7.out.2.2.1).1 H7.out.2.2.1) (H7.out.2.2.2.below hb))))
        clear hb HN H7))
    | (go_at_call 12; refine (num_err _ _).mono ?_; rintro e w' ⟨rfl, rfl⟩)
    | (go_at_call 14
       (
        refine (wk_bytes9 H8.out.1).mono ?_
        rintro e W9 ⟨rfl, h9⟩
        have hb := below_new (w := W8) (.cells wkL9 5)
        rw [h9] at hb
        have hc4 := cellOf (o := 0) (belowBlk hb (Array.getElem?_eq_some_iff.1 H8.out.2.2.1).1 H8.out.2.2.1) rfl
        have H9 := Lib.hid (And.intro (below_trans H8.out.2.1 hb) (H8.out.2.2.2.below hb))
        clear hb h9 H8))
    | (go_at_call 14
       (
        refine (wk_bytes3 H9.out.2).mono ?_
        rintro e W10 ⟨rfl, h10⟩
        have hb := below_new (w := W9) (.cells wkL3 5)
        rw [h10] at hb
        have H10 := Lib.hid (below_trans H9.out.1 hb)
        clear hb h10 H9)))
  go_ret
  exact ⟨rfl, H10.out⟩
end Go.Proofs.YthdfedfholmbmaaGreatDoor

namespace Go.Proofs.YthdfedfholmbmaaGreatDoor
open Go.RowKit
theorem lt_nat (i j : Nat) (W : World) : (binOp .lss 3 (.int .i64 (i : Int)) (.int .i64 (j : Int))).run Tryz.prog W = .ok (.bool (decide (i < j))) W := by
  simp [go_sem]
theorem begins_any {w : World} {p p2 : Option Addr} {c c2 : Nat} {l m : List UInt8} (h : RdB w (.slice p l.length c) l) (h2 : RdB w (.slice p2 m.length c2) m) : Calls Tryz.prog 34 #[.slice p l.length c, .slice p2 m.length c2] w fun e w' => e = .returned (.bool (beginsB l m)) ∧ Below w.heap.size w w' := by
  unfold beginsB
  by_cases hlt : l.length < m.length
  · rw [decide_eq_true hlt, Bool.true_and]
    have hlt0 : ∀ W, (binOp .lss 3 (.int .i64 (l.length : Int)) (.int .i64 (m.length : Int))).run Tryz.prog W = .ok (.bool true) W := fun W => by rw [lt_nat, decide_eq_true hlt]
    obtain ⟨a3, hs3, hrd3, _⟩ := sub_rdB h2 none (some (l.length : Int)) 0 l.length (by simp) (by simp) (by simp) (by simp) (Nat.zero_le _) (Nat.le_of_lt hlt)
    simp only [Nat.sub_zero, List.drop_zero, Option.map_none, Option.map_some] at hs3 hrd3
    have hrd3 : RdB w (.slice a3 (m.take l.length).length c2) (m.take l.length) := by rw [List.length_take, Nat.min_eq_left (Nat.le_of_lt hlt)]; exact hrd3
    have htl : (m.take l.length).length = l.length := by rw [List.length_take]; omega
    have hrd3 : RdB w (.slice a3 l.length c2) (m.take l.length) := by rw [htl] at hrd3; exact hrd3
    have HX := Lib.hid (And.intro hlt0 (And.intro hs3 (And.intro hrd3 (And.intro h hlt))))
    clear hlt0 hs3 hrd3 h h2 hlt htl
    go_enter Tryz.func34, Tryz.ntmps34
    go_wp2
    obtain ⟨hlt0, hs3, hrd3, h, hlt⟩ := HX.out
    refine plain_region_draws (fun W => Below w.heap.size w W) (by kernel_rfl) (show Below w.heap.size w w.drew from (Below.refl _ _).drew) (fun hS => ?_)
    refine tk 0 5 (v := .slice p l.length c) rfl rfl (fun W hW => exec_move rfl rfl) ?_
    simp only [Act.put, sA, sZ, sS]
    refine tk 1 6 (v := .int .i64 (l.length : Int)) rfl rfl (fun W hW => exec_lenb rfl rfl) ?_
    simp only [Act.put, sA, sZ, sS]
    refine tk 2 7 (v := .slice p2 m.length c2) rfl rfl (fun W hW => exec_move rfl rfl) ?_
    simp only [Act.put, sA, sZ, sS]
    refine tk 3 8 (v := .int .i64 (m.length : Int)) rfl rfl (fun W hW => exec_lenb rfl rfl) ?_
    simp only [Act.put, sA, sZ, sS]
    refine tk 4 9 (v := .bool true) rfl rfl (fun W hW => exec_bini rfl rfl rfl (hlt0 W)) ?_
    simp only [Act.put, sA, sZ, sS]
    refine tk 5 10 (v := .bool true) rfl rfl (fun W hW => exec_move rfl rfl) ?_
    simp only [Act.put, sA, sZ, sS]
    refine tk 6 11 (v := .slice p2 m.length c2) rfl rfl (fun W hW => exec_move rfl rfl) ?_
    simp only [Act.put, sA, sZ, sS]
    refine tk 7 12 (v := .slice p l.length c) rfl rfl (fun W hW => exec_move rfl rfl) ?_
    simp only [Act.put, sA, sZ, sS]
    refine tk 8 13 (v := .int .i64 (l.length : Int)) rfl rfl (fun W hW => exec_lenb rfl rfl) ?_
    simp only [Act.put, sA, sZ, sS]
    refine tk 9 14 (v := .slice a3 l.length c2) rfl rfl (fun W hW => exec_slice rfl rfl rfl rfl rfl (hs3 W)) ?_
    simp only [Act.put, sA, sZ, sS]
    refine tk 10 15 (v := .string (strB (m.take l.length))) rfl rfl (fun W hW => exec_convert rfl rfl (bytes_str (hrd3.below hW))) ?_
    simp only [Act.put, sA, sZ, sS]
    refine tk 11 16 (v := .slice p l.length c) rfl rfl (fun W hW => exec_move rfl rfl) ?_
    simp only [Act.put, sA, sZ, sS]
    refine tk 12 17 (v := .string (strB l)) rfl rfl (fun W hW => exec_convert rfl rfl (bytes_str (h.below hW))) ?_
    simp only [Act.put, sA, sZ, sS]
    refine tk 13 18 (v := .bool (decide (m.take l.length = l))) rfl rfl (fun W hW => exec_bins rfl rfl rfl (eql_bytesS _ _ W)) ?_
    simp only [Act.put, sA, sZ, sS]
    refine tk 14 19 (v := .bool (decide (m.take l.length = l))) rfl rfl (fun W hW => rfl) ?_
    simp only [Act.put, sA, sZ, sS]
    refine tk 15 4 (v := .bool (decide (m.take l.length = l))) rfl rfl (fun W hW => exec_assign rfl rfl) ?_
    simp only [Act.put, sA, sZ, sS]
    refine done (by kernel_rfl) ?_ _
    have HS := Lib.hid hS
    clear hS hlt0 hs3 hrd3 h
    clear hlt HX
    go_wp2
    go_ret
    exact ⟨rfl, HS.out⟩
  · have hlt0 : ∀ W, (binOp .lss 3 (.int .i64 (l.length : Int)) (.int .i64 (m.length : Int))).run Tryz.prog W = .ok (.bool false) W := fun W => by rw [lt_nat, decide_eq_false hlt]
    rw [decide_eq_false hlt, Bool.false_and]
    have HX := Lib.hid hlt0
    clear hlt0 hlt
    go_enter Tryz.func34, Tryz.ntmps34
    go_wp2
    have hlt0 := HX.out
    refine plain_region_draws (fun W => Below w.heap.size w W) (by kernel_rfl) (show Below w.heap.size w w.drew from (Below.refl _ _).drew) (fun hS => ?_)
    refine tk 0 5 (v := .slice p l.length c) rfl rfl (fun W hW => exec_move rfl rfl) ?_
    simp only [Act.put, sA, sZ, sS]
    refine tk 1 6 (v := .int .i64 (l.length : Int)) rfl rfl (fun W hW => exec_lenb rfl rfl) ?_
    simp only [Act.put, sA, sZ, sS]
    refine tk 2 7 (v := .slice p2 m.length c2) rfl rfl (fun W hW => exec_move rfl rfl) ?_
    simp only [Act.put, sA, sZ, sS]
    refine tk 3 8 (v := .int .i64 (m.length : Int)) rfl rfl (fun W hW => exec_lenb rfl rfl) ?_
    simp only [Act.put, sA, sZ, sS]
    refine tk 4 9 (v := .bool false) rfl rfl (fun W hW => exec_bini rfl rfl rfl (hlt0 W)) ?_
    simp only [Act.put, sA, sZ, sS]
    refine tk 5 10 (v := .bool false) rfl rfl (fun W hW => exec_move rfl rfl) ?_
    simp only [Act.put, sA, sZ, sS]
    refine takeNot 6 11 rfl rfl (by kernel_rfl) (by kernel_rfl) (by kernel_rfl) rfl (by assumption) ?_
    simp only [Act.put, sA, sZ, sS]
    refine takeNot 7 12 rfl rfl (by kernel_rfl) (by kernel_rfl) (by kernel_rfl) rfl (by assumption) ?_
    simp only [Act.put, sA, sZ, sS]
    refine takeNot 8 13 rfl rfl (by kernel_rfl) (by kernel_rfl) (by kernel_rfl) rfl (by assumption) ?_
    simp only [Act.put, sA, sZ, sS]
    refine takeNot 9 14 rfl rfl (by kernel_rfl) (by kernel_rfl) (by kernel_rfl) rfl (by assumption) ?_
    simp only [Act.put, sA, sZ, sS]
    refine takeNot 10 15 rfl rfl (by kernel_rfl) (by kernel_rfl) (by kernel_rfl) rfl (by assumption) ?_
    simp only [Act.put, sA, sZ, sS]
    refine takeNot 11 16 rfl rfl (by kernel_rfl) (by kernel_rfl) (by kernel_rfl) rfl (by assumption) ?_
    simp only [Act.put, sA, sZ, sS]
    refine takeNot 12 17 rfl rfl (by kernel_rfl) (by kernel_rfl) (by kernel_rfl) rfl (by assumption) ?_
    simp only [Act.put, sA, sZ, sS]
    refine takeNot 13 18 rfl rfl (by kernel_rfl) (by kernel_rfl) (by kernel_rfl) rfl (by assumption) ?_
    simp only [Act.put, sA, sZ, sS]
    refine tk 14 19 (v := .bool false) rfl rfl (fun W hW => rfl) ?_
    simp only [Act.put, sA, sZ, sS]
    refine tk 15 4 (v := .bool false) rfl rfl (fun W hW => exec_assign rfl rfl) ?_
    simp only [Act.put, sA, sZ, sS]
    refine done (by kernel_rfl) ?_ _
    have HS := Lib.hid hS
    clear hS hlt0
    go_wp2
    go_ret
    exact ⟨rfl, HS.out⟩
end Go.Proofs.YthdfedfholmbmaaGreatDoor

namespace Go.Proofs.YthdfedfholmbmaaGreatDoor
open Go.RowKit
def SizeLo (left tot r : Nat) : Prop := (tot ≤ left → r = tot) ∧ (left < tot → left < r) ∧ r ≤ left + 281474976710657
def kSum (ks : List (List UInt8)) : Nat := (ks.map List.length).sum
theorem kSum_step {ks : List (List UInt8)} {j : Nat} (h : j < ks.length) : kSum (ks.take (j + 1)) = kSum (ks.take j) + ks[j].length := by
  unfold kSum; rw [List.take_succ_eq_append_getElem h, List.map_append, List.sum_append]; simp
theorem kSum_le (ks : List (List UInt8)) (j : Nat) : kSum (ks.take j) ≤ kSum ks := by
  have e : ks.take j ++ ks.drop j = ks := List.take_append_drop _ _
  have := congrArg kSum e
  unfold kSum at *
  rw [List.map_append, List.sum_append] at this
  omega
theorem tVs_step {l : List V} {j : Nat} (h : j < l.length) : totVs (l.take (j + 1)) = totVs (l.take j) + totV l[j] := by
  rw [List.take_succ_eq_append_getElem h, totVs_append]; simp [totVs]
theorem tVs_le (l : List V) (j : Nat) : totVs (l.take j) ≤ totVs l := by
  have e : l.take j ++ l.drop j = l := List.take_append_drop _ _
  have := congrArg totVs e
  rw [totVs_append] at this
  omega
theorem vsz_any : ∀ (v : V) (left : Nat), left ≤ 3000 → ∀ (w : World) (x : Array Value), VRd w v x →
    Calls Tryz.prog 19 #[.agg x, .int .i64 (left : Int)] w fun e w' => (∃ r : Nat, e = .returned (.int .i64 (r : Int)) ∧ SizeLo left (totV v) r) ∧ Below w.heap.size w w' := by
  refine V.ind fun k b n t ks l ih => ?_
  intro left hle w x hx
  rw [totV_mk]
  obtain ⟨pk, ck, pl, cl, rfl, htx, hk1, hl1⟩ := VRd_iff.1 hx
  have hT := OneB.start w #[.int .i64 k, .bool b, .int .i64 n, .string (strB t), .slice pk ks.length ck, .slice pl l.length cl]
  have z1 : (ks.length : Int) ≤ 140737488355328 := by have := hk1.2.1.1; omega
  have z2 : (l.length : Int) ≤ 140737488355328 := by have := hl1.1.2.1.1; omega
  have z3 : (t.length : Int) ≤ 140737488355328 := by omega
  have z4 : (left : Int) ≤ 3000 := by omega
  have hst : (strB t).size = t.length := rfl
  have HI := Lib.hid (fun (a : V) (ha : a ∈ l) => ih a ha)
  have HK := Lib.hid hk1
  have HL := Lib.hid hl1
  have HT := Lib.hid hT
  clear ih hx hk1 hl1 hT hle
  go_enter Tryz.func19, Tryz.ntmps19
  go_wp2
  go_loopw [5, 6] (fun m i W => ∃ j nn : Nat, j ≤ ks.length ∧ i = .int .i64 (j : Int) ∧ m = .int .i64 (nn : Int) ∧ nn ≤ left + 281474976710657 ∧ Hid (nn = 1 + t.length + j + kSum (ks.take j)) ∧ Hid (OneB w W #[.int .i64 k, .bool b, .int .i64 n, .string (strB t), .slice pk ks.length ck, .slice pl l.length cl])) (fun _ i _ => ks.length - (intOf i).toNat)
  case atStart =>
    exact ⟨0, 1 + t.length, Nat.zero_le _, rfl, by go_num, by omega, Lib.hid (by simp [kSum]), HT⟩
  case round =>
    obtain ⟨j, nn, hj, rfl, rfl, hnb, HS, HT2⟩ := hrel
    clear HT
    have p4 := cellOf (o := 4) HT2.out.1 rfl
    have z5 : (nn : Int) ≤ 281474976713657 := by omega
    by_cases hlt : j < ks.length
    · have hlt1 : j + 1 ≤ ks.length := hlt
      by_cases hle : nn ≤ left
      · have hle1 : (nn : Int) ≤ (left : Int) := by omega
        obtain ⟨bk, ok, rfl, q0, hsl⟩ := (HK.out.below HT2.out.2).get hlt
        have hstep := kSum_step hlt
        generalize ks[j] = kk at *
        have hszk : (strB kk).size = kk.length := rfl
        have z6 : (kk.length : Int) ≤ 140737488355328 := by omega
        have HF := Lib.hid (And.intro hstep HS.out)
        clear hstep HS
        go_wp2
        go_roundw
        case rel => exact ⟨j + 1, nn + 1 + kk.length, hlt1, by go_num, by go_num, by omega, Lib.hid (by have := HF.out.1; have := HF.out.2; omega), HT2⟩
        case measure => simp [intOf]; omega
      · have hle1 : ¬ (nn : Int) ≤ (left : Int) := by omega
        have hle0 : decide ((nn : Int) ≤ (left : Int)) = false := by simpa using hle1
        have hsum := kSum_le ks j
        have HF := Lib.hid (And.intro hsum (And.intro HS.out hle))
        clear hsum HS
        go_wp2
        go_loopw [5, 7] (fun m i W => ∃ j2 n2 : Nat, j2 ≤ l.length ∧ i = .int .i64 (j2 : Int) ∧ m = .int .i64 (n2 : Int) ∧ n2 ≤ left + 281474976710657 ∧ Hid ((1 + t.length + ks.length + kSum ks + totVs (l.take j2) ≤ left → n2 = 1 + t.length + ks.length + kSum ks + totVs (l.take j2)) ∧ (left < 1 + t.length + ks.length + kSum ks + totVs (l.take j2) → left < n2)) ∧ Hid (OneB w W #[.int .i64 k, .bool b, .int .i64 n, .string (strB t), .slice pk ks.length ck, .slice pl l.length cl])) (fun _ i _ => l.length - (intOf i).toNat)
        case atStart => exact ⟨0, nn, Nat.zero_le _, rfl, rfl, hnb, Lib.hid (by
          have h := HF.out
          rw [List.take_zero]
          simp only [totVs]
          exact ⟨fun h2 => by omega, fun _ => by omega⟩), HT2⟩
        case round =>
          clear p4 HT2 HF hnb z5
          obtain ⟨j2, n2, hj2, rfl, rfl, hnb2, HQ, HT3⟩ := hrel
          have p5 := cellOf (o := 5) HT3.out.1 rfl
          have z6 : (n2 : Int) ≤ 281474976713657 := by omega
          by_cases hlt2 : j2 < l.length
          · have hlt3 : j2 + 1 ≤ l.length := hlt2
            by_cases hle2 : n2 ≤ left
            · have hle3 : (n2 : Int) ≤ (left : Int) := by omega
              obtain ⟨g1, o1, pk1, ck1, pl1, cl1, rfl, ⟨a0, a1, a2, a3, a4, a5⟩, hv1⟩ := (HL.out.below HT3.out.2).at hlt2
              have hstep := tVs_step hlt2
              have hsub : ((left : Int) - (n2 : Int)) = ((left - n2 : Nat) : Int) := by omega
              have hcall := HI.out l[j2] (List.getElem_mem hlt2) (left - n2) (by omega) wr _ hv1
              rw [← hsub] at hcall
              generalize l[j2] = s1 at *
              have HD := Lib.hid (And.intro hcall (And.intro hstep (And.intro HQ.out HT3.out)))
              clear hcall hstep hv1 hsub
              go_wp2_with (go_at_call 19
                           (
                             refine HD.out.1.mono ?_
                             rintro e w3 ⟨⟨r, rfl, hr⟩, hb3⟩
                             have HG := Lib.hid (And.intro hr (HD.out.2.2.2.below hb3))
                             have z7 : (r : Int) ≤ 281474976713657 := by have := hr.2.2; omega
                             clear hr hb3))
              go_roundw
              case rel =>
                obtain ⟨⟨h1, h2, h3⟩, hT4⟩ := HG.out
                obtain ⟨_, hstep, ⟨g1, g2⟩, _⟩ := HD.out
                refine ⟨j2 + 1, n2 + r, hlt3, by go_num, by go_num, by omega, Lib.hid ⟨fun h => ?_, fun h => ?_⟩, Lib.hid hT4⟩
                · rw [hstep] at h ⊢
                  have e1 := g1 (by omega)
                  have e2 := h1 (by omega)
                  omega
                · rw [hstep] at h
                  by_cases hc : 1 + t.length + ks.length + kSum ks + totVs (l.take j2) ≤ left
                  · have e1 := g1 hc
                    have e2 := h2 (by omega)
                    omega
                  · have := g2 (by omega); omega
              case measure => simp [intOf]; omega
            · have hle3 : ¬ (n2 : Int) ≤ (left : Int) := by omega
              have hle4 : decide ((n2 : Int) ≤ (left : Int)) = false := by simpa using hle3
              have hsum := tVs_le l j2
              have HF2 := Lib.hid (And.intro HQ.out (And.intro hsum (And.intro HT3.out.2 hle2)))
              clear hsum
              go_wp2
              go_ret
              obtain ⟨⟨g1, g2⟩, hsum, hbb, hgt⟩ := HF2.out
              refine ⟨⟨n2, rfl, ⟨fun h => ?_, fun h => by omega, hnb2⟩⟩, hbb⟩
              exact absurd (g1 (by unfold kSum; omega)) (by unfold kSum; omega)
          · obtain rfl : j2 = l.length := by omega
            have HF2 := Lib.hid (And.intro HQ.out HT3.out.2)
            go_wp2
            go_ret
            obtain ⟨⟨g1, g2⟩, hbb⟩ := HF2.out
            rw [List.take_length] at g1 g2
            exact ⟨⟨n2, rfl, ⟨g1, g2, hnb2⟩⟩, hbb⟩
    · obtain rfl : j = ks.length := by omega
      have HF := Lib.hid HS.out
      clear HS
      go_wp2
      go_loopw [5, 7] (fun m i W => ∃ j2 n2 : Nat, j2 ≤ l.length ∧ i = .int .i64 (j2 : Int) ∧ m = .int .i64 (n2 : Int) ∧ n2 ≤ left + 281474976710657 ∧ Hid ((1 + t.length + ks.length + kSum ks + totVs (l.take j2) ≤ left → n2 = 1 + t.length + ks.length + kSum ks + totVs (l.take j2)) ∧ (left < 1 + t.length + ks.length + kSum ks + totVs (l.take j2) → left < n2)) ∧ Hid (OneB w W #[.int .i64 k, .bool b, .int .i64 n, .string (strB t), .slice pk ks.length ck, .slice pl l.length cl])) (fun _ i _ => l.length - (intOf i).toNat)
      case atStart => exact ⟨0, nn, Nat.zero_le _, rfl, rfl, hnb, Lib.hid (by
        have h := HF.out
        rw [List.take_zero]
        simp only [totVs]
        rw [List.take_length] at h; exact ⟨fun h2 => by omega, fun _ => by omega⟩), HT2⟩
      case round =>
        clear p4 HT2 HF hnb z5
        obtain ⟨j2, n2, hj2, rfl, rfl, hnb2, HQ, HT3⟩ := hrel
        have p5 := cellOf (o := 5) HT3.out.1 rfl
        have z6 : (n2 : Int) ≤ 281474976713657 := by omega
        by_cases hlt2 : j2 < l.length
        · have hlt3 : j2 + 1 ≤ l.length := hlt2
          by_cases hle2 : n2 ≤ left
          · have hle3 : (n2 : Int) ≤ (left : Int) := by omega
            obtain ⟨g1, o1, pk1, ck1, pl1, cl1, rfl, ⟨a0, a1, a2, a3, a4, a5⟩, hv1⟩ := (HL.out.below HT3.out.2).at hlt2
            have hstep := tVs_step hlt2
            have hsub : ((left : Int) - (n2 : Int)) = ((left - n2 : Nat) : Int) := by omega
            have hcall := HI.out l[j2] (List.getElem_mem hlt2) (left - n2) (by omega) wr _ hv1
            rw [← hsub] at hcall
            generalize l[j2] = s1 at *
            have HD := Lib.hid (And.intro hcall (And.intro hstep (And.intro HQ.out HT3.out)))
            clear hcall hstep hv1 hsub
            go_wp2_with (go_at_call 19
                         (
                           refine HD.out.1.mono ?_
                           rintro e w3 ⟨⟨r, rfl, hr⟩, hb3⟩
                           have HG := Lib.hid (And.intro hr (HD.out.2.2.2.below hb3))
                           have z7 : (r : Int) ≤ 281474976713657 := by have := hr.2.2; omega
                           clear hr hb3))
            go_roundw
            case rel =>
              obtain ⟨⟨h1, h2, h3⟩, hT4⟩ := HG.out
              obtain ⟨_, hstep, ⟨g1, g2⟩, _⟩ := HD.out
              refine ⟨j2 + 1, n2 + r, hlt3, by go_num, by go_num, by omega, Lib.hid ⟨fun h => ?_, fun h => ?_⟩, Lib.hid hT4⟩
              · rw [hstep] at h ⊢
                have e1 := g1 (by omega)
                have e2 := h1 (by omega)
                omega
              · rw [hstep] at h
                by_cases hc : 1 + t.length + ks.length + kSum ks + totVs (l.take j2) ≤ left
                · have e1 := g1 hc
                  have e2 := h2 (by omega)
                  omega
                · have := g2 (by omega); omega
            case measure => simp [intOf]; omega
          · have hle3 : ¬ (n2 : Int) ≤ (left : Int) := by omega
            have hle4 : decide ((n2 : Int) ≤ (left : Int)) = false := by simpa using hle3
            have hsum := tVs_le l j2
            have HF2 := Lib.hid (And.intro HQ.out (And.intro hsum (And.intro HT3.out.2 hle2)))
            clear hsum
            go_wp2
            go_ret
            obtain ⟨⟨g1, g2⟩, hsum, hbb, hgt⟩ := HF2.out
            refine ⟨⟨n2, rfl, ⟨fun h => ?_, fun h => by omega, hnb2⟩⟩, hbb⟩
            exact absurd (g1 (by unfold kSum; omega)) (by unfold kSum; omega)
        · obtain rfl : j2 = l.length := by omega
          have HF2 := Lib.hid (And.intro HQ.out HT3.out.2)
          go_wp2
          go_ret
          obtain ⟨⟨g1, g2⟩, hbb⟩ := HF2.out
          rw [List.take_length] at g1 g2
          exact ⟨⟨n2, rfl, ⟨g1, g2, hnb2⟩⟩, hbb⟩
end Go.Proofs.YthdfedfholmbmaaGreatDoor

namespace Go.Proofs.YthdfedfholmbmaaGreatDoor
open Go.RowKit
theorem add_big {i j : Nat} (h : i + j ≤ 4611686018427387904) (W : World) : (binOp .add 3 (.int .i64 (i : Int)) (.int .i64 (j : Int))).run Tryz.prog W = .ok (.int .i64 ((i + j : Nat) : Int)) W := by
  have e : IntKind.i64.wrap ((i : Int) + (j : Int)) = ((i + j : Nat) : Int) := by rw [IntKind.wrap_i64]; omega
  simp [go_sem, e]
theorem add_one' {i : Nat} (h : i ≤ 4611686018427387903) (W : World) : (binOp .add 3 (.int .i64 (i : Int)) (.int .i64 1)).run Tryz.prog W = .ok (.int .i64 ((i + 1 : Nat) : Int)) W := add_big (i := i) (j := 1) (by omega) W
theorem exec_lenQ {a : Act} {w : World} {o : Oper} {x : Operand} {l : List UInt8} (ho : o.op = .call { callee := .builtin .len, args := #[x], argTypes := #[9] }) (hx : a.eval x = .string (strB l)) : (execOp a.eval o).run Tryz.prog w = .ok (.value (.int .i64 (l.length : Int))) w := by
  have e : (strB l).size = l.length := rfl
  unfold execOp
  simp only [ho, resolve, invoke, builtin, Sem.run_bind, Sem.run_pure, Result.andThen_ok, List.map_toArray, List.map_cons, List.map_nil, hx]
  simp [go_sem, e]
theorem sum_take {α : Type} (f : α → Nat) {l : List α} {j : Nat} (h : j < l.length) : ((l.take (j + 1)).map f).sum = ((l.take j).map f).sum + f l[j] := by
  rw [List.take_succ_eq_append_getElem h, List.map_append, List.sum_append]; simp
def Szo (tot r : Nat) : Prop := (r ≤ 3000 → tot ≤ r) ∧ r ≤ 1125899906842624
theorem psz_any {w : World} {pl pp : Option Addr} {cl cp : Nat} {ls : List (List UInt8)} {ps : List PropD} (hl : RdS w pl cl ls) (hp : GRd PRd 7 w pp cp ps) :
    Calls Tryz.prog 36 #[.slice pl ls.length cl, .slice pp ps.length cp] w fun e w' => ∃ r : Nat, e = .returned (.int .i64 (r : Int)) ∧ Szo (1 + totLs ls + totPs ps) r ∧ Below w.heap.size w w' := by
  have z1 : (ls.length : Int) ≤ 140737488355328 := by have := hl.2.1.1; omega
  have z2 : (ps.length : Int) ≤ 140737488355328 := by have := hp.1.2.1; omega
  have HL := Lib.hid hl
  have HP := Lib.hid hp
  have htot : totPs ps = (ps.map totP).sum := rfl
  rw [htot]
  clear hl hp htot
  go_enter Tryz.func36, Tryz.ntmps36
  go_wp2
  go_loopw [5, 6] (fun m i W => ∃ j nn : Nat, j ≤ ls.length ∧ i = .int .i64 (j : Int) ∧ m = .int .i64 (nn : Int) ∧ nn ≤ 1125899906842624 ∧ Hid ((nn ≤ 3000 → 1 + ((ls.take j).map fun s => 1 + s.length).sum ≤ nn) ∧ Below w.heap.size w W)) (fun _ i _ => ls.length - (intOf i).toNat)
  case atStart => exact ⟨0, 1, Nat.zero_le _, rfl, rfl, by omega, Lib.hid ⟨fun _ => by simp, Below.refl _ _⟩⟩
  case round =>
    obtain ⟨j, nn, hj, rfl, rfl, hnb, HS⟩ := hrel
    have z5 : (nn : Int) ≤ 1125899906842624 := by omega
    by_cases hlt : j < ls.length
    · have hlt1 : j + 1 ≤ ls.length := hlt
      by_cases hle : nn ≤ 3000
      · have hle1 : (nn : Int) ≤ 3000 := by omega
        obtain ⟨bk, ok, rfl, q0, hsl⟩ := (HL.out.below HS.out.2).get hlt
        have hstep : ((ls.take (j + 1)).map fun s => 1 + s.length).sum = ((ls.take j).map fun s => 1 + s.length).sum + (1 + ls[j].length) := sum_take (fun s : List UInt8 => 1 + s.length) hlt
        generalize ls[j] = kk at *
        have hszk : (strB kk).size = kk.length := rfl
        have z6 : (kk.length : Int) ≤ 140737488355328 := by omega
        have HF := Lib.hid (And.intro hstep HS.out)
        clear hstep HS
        go_wp2
        go_roundw
        case rel => exact ⟨j + 1, nn + 1 + kk.length, hlt1, by go_num, by go_num, by omega, Lib.hid ⟨fun h => by have := HF.out.1; have := HF.out.2.1 (by omega); omega, HF.out.2.2⟩⟩
        case measure => simp [intOf]; omega
      · have hle1 : ¬ (nn : Int) ≤ 3000 := by omega
        have hle0 : decide ((nn : Int) ≤ 3000) = false := by simpa using hle1
        have HF := Lib.hid (show (nn ≤ 3000 → 1 + totLs ls ≤ nn) ∧ Below w.heap.size w wr from ⟨fun h => absurd h hle, HS.out.2⟩)
        clear HS hle
        go_wp2
        go_loopw [5, 7] (fun m i W => ∃ j2 nn : Nat, j2 ≤ ps.length ∧ i = .int .i64 (j2 : Int) ∧ m = .int .i64 (nn : Int) ∧ nn ≤ 1125899906842624 ∧ Hid ((nn ≤ 3000 → 1 + totLs ls + ((ps.take j2).map totP).sum ≤ nn) ∧ Below w.heap.size w W)) (fun _ i _ => ps.length - (intOf i).toNat)
        case atStart => exact ⟨0, nn, Nat.zero_le _, rfl, rfl, by omega, Lib.hid ⟨fun h => by have := HF.out.1 h; simp only [List.take_zero, List.map_nil, List.sum_nil]; omega, HF.out.2⟩⟩
        case round =>
          clear HF
          obtain ⟨j2, nn, hj2, rfl, rfl, hnb2, HQ⟩ := hrel
          have z5 : (nn : Int) ≤ 1125899906842624 := by omega
          by_cases hlt2 : j2 < ps.length
          · have hlt3 : j2 + 1 ≤ ps.length := hlt2
            by_cases hle : nn ≤ 3000
            · have hle1 : (nn : Int) ≤ 3000 := by omega
              obtain ⟨b, of, cs, rfl, hs, hc0, hv⟩ := HP.out.get hlt2
              have hc : ∀ (k : Nat) (u : Value), cs[k]? = some u → wr.cell? ⟨b, of + j2 * 7 + k, none⟩ = some u := fun k u hu => belowCell HQ.out.2 (ltOf (hc0 k u hu)) (hc0 k u hu)
              have hst := sum_take totP hlt2
              have hia : ∀ W' : World, (Instr.indexAt 68 (.slice (some ⟨b, of, none⟩) ps.length cp) (.int .i64 (j2 : Int))).run Tryz.prog W' = .ok (.pointer (some ⟨b, of + j2 * 7, none⟩)) W' := by intro W'; simp [go_sem, hlt2]
              have hf0 : ∀ W' : World, (Instr.fieldAt 136 (.pointer (some ⟨b, of + j2 * 7, none⟩)) 0).run Tryz.prog W' = .ok (.pointer (some ⟨b, of + j2 * 7, none⟩)) W' := by intro W'; simp [go_sem]
              have hf1 : ∀ W' : World, (Instr.fieldAt 136 (.pointer (some ⟨b, of + j2 * 7, none⟩)) 1).run Tryz.prog W' = .ok (.pointer (some ⟨b, of + j2 * 7 + 1, none⟩)) W' := by intro W'; simp [go_sem]
              have hS0 : (∀ (k : Nat) (u : Value), cs[k]? = some u → wr.drew.cell? ⟨b, of + j2 * 7 + k, none⟩ = some u) ∧ Below w.heap.size w wr.drew := ⟨fun k u hu => hc k u hu, HQ.out.2.drew⟩
              have htp : totP ps[j2] = 1 + ps[j2].key.length + totV ps[j2].val := rfl
              obtain ⟨y, ey, hkl, hvv⟩ := hv
              have hys : y.size = 6 := ef_val.size hvv
              generalize totP ps[j2] = tp at *
              generalize ps[j2].key = key at *
              generalize ps[j2].val = val at *
              have hk0 : cs[0]? = some (.string (strB key)) := by rw [ey, Array.getElem?_append_left (by simp)]; rfl
              have hky : ∀ (i : Nat) (u : Value), y[i]? = some u → cs[1 + i]? = some u := fun i u hu => by
                rw [ey, Array.getElem?_append_right (by simp)]
                simpa using hu
              have hlv : ∀ W : World, ((∀ (k : Nat) (u : Value), cs[k]? = some u → W.cell? ⟨b, of + j2 * 7 + k, none⟩ = some u) ∧ Below w.heap.size w W) → (loadVar 48 ⟨b, of + j2 * 7 + 1, none⟩).run Tryz.prog W = .ok (.agg y) W := fun W h => StT.load st_val hys fun i u hu => by
                rw [Nat.add_assoc]; exact h.1 _ _ (hky i u hu)
              have hvw0 := hvv
              have hcall : ∀ W, Below w.heap.size w W → Calls Tryz.prog 19 #[.agg y, .int .i64 3000] W fun e w' => (∃ r : Nat, e = .returned (.int .i64 (r : Int)) ∧ SizeLo 3000 (totV val) r) ∧ Below W.heap.size W w' := fun W g => vsz_any val 3000 (Nat.le_refl _) W y (hvw0.below g)
              have HX := Lib.hid (And.intro hia (And.intro hf0 (And.intro hf1 (And.intro hS0 (And.intro hk0 (And.intro hlv (And.intro hcall (And.intro hkl (And.intro hst htp)))))))))
              clear hia hf0 hf1 hS0 hk0 hky hlv hcall hkl hst hc hvv hvw0 ey hc0 hs htp
              go_wp2
              obtain ⟨hia, hf0, hf1, hS0, hk0, hlv, hcall, hkl, hst, htp⟩ := HX.out
              refine plain_region_draws (fun W => (∀ (k : Nat) (u : Value), cs[k]? = some u → W.cell? ⟨b, of + j2 * 7 + k, none⟩ = some u) ∧ Below w.heap.size w W) (by kernel_rfl) hS0 (fun hS => ?_)
              refine tk 0 36 (v := .int .i64 (nn : Int)) rfl rfl (fun W hW => exec_move rfl rfl) ?_
              simp only [Act.put, sA, sZ, sS]
              refine tk 1 37 (v := .int .i64 ((nn + 1 : Nat) : Int)) rfl rfl (fun W hW => exec_bini rfl rfl rfl (add_one' (by omega) W)) ?_
              simp only [Act.put, sA, sZ, sS]
              refine tk 2 38 (v := .slice (some ⟨b, of, none⟩) ps.length cp) rfl rfl (fun W hW => exec_move rfl rfl) ?_
              simp only [Act.put, sA, sZ, sS]
              refine tk 3 39 (v := .int .i64 (j2 : Int)) rfl rfl (fun W hW => exec_move rfl rfl) ?_
              simp only [Act.put, sA, sZ, sS]
              refine tk 4 40 (v := .pointer (some ⟨b, of + j2 * 7, none⟩)) rfl rfl (fun W hW => exec_indexAddr rfl rfl rfl (hia W)) ?_
              simp only [Act.put, sA, sZ, sS]
              refine tk 5 41 (v := .pointer (some ⟨b, of + j2 * 7, none⟩)) rfl rfl (fun W hW => exec_fieldAddr rfl rfl (hf0 W)) ?_
              simp only [Act.put, sA, sZ, sS]
              refine tk 6 42 (v := .string (strB key)) rfl rfl (fun W hW => exec_load rfl rfl (run_load1 (w := W) Tryz.underlying9 rfl (hW.1 0 _ hk0))) ?_
              simp only [Act.put, sA, sZ, sS]
              refine tk 7 43 (v := .int .i64 (key.length : Int)) rfl rfl (fun W hW => exec_lenQ rfl rfl) ?_
              simp only [Act.put, sA, sZ, sS]
              refine tk 8 44 (v := .int .i64 ((nn + 1 + key.length : Nat) : Int)) rfl rfl (fun W hW => exec_bini rfl rfl rfl (add_big (by omega) W)) ?_
              simp only [Act.put, sA, sZ, sS]
              refine tk 9 45 (v := .slice (some ⟨b, of, none⟩) ps.length cp) rfl rfl (fun W hW => exec_move rfl rfl) ?_
              simp only [Act.put, sA, sZ, sS]
              refine tk 10 46 (v := .int .i64 (j2 : Int)) rfl rfl (fun W hW => exec_move rfl rfl) ?_
              simp only [Act.put, sA, sZ, sS]
              refine tk 11 47 (v := .pointer (some ⟨b, of + j2 * 7, none⟩)) rfl rfl (fun W hW => exec_indexAddr rfl rfl rfl (hia W)) ?_
              simp only [Act.put, sA, sZ, sS]
              refine tk 12 48 (v := .pointer (some ⟨b, of + j2 * 7 + 1, none⟩)) rfl rfl (fun W hW => exec_fieldAddr rfl rfl (hf1 W)) ?_
              simp only [Act.put, sA, sZ, sS]
              refine tk 13 49 (v := .agg y) rfl rfl (fun W hW => exec_load rfl rfl (hlv W hW)) ?_
              simp only [Act.put, sA, sZ, sS]
              refine onlyCall 14 50 rfl rfl (by kernel_rfl) rfl (exec_call [.agg y, .int .i64 3000] rfl rfl Tryz.func19 (by kernel_rfl) (by kernel_rfl)) ?_
              refine (hcall _ hS.2).mono ?_
              rintro e w7 ⟨⟨r, rfl, hr⟩, hb7⟩
              have hS7 : (∀ (k : Nat) (u : Value), cs[k]? = some u → w7.cell? ⟨b, of + j2 * 7 + k, none⟩ = some u) ∧ Below w.heap.size w w7 := ⟨fun k u hu => belowCell hb7 (ltOf (hS.1 k u hu)) (hS.1 k u hu), below_trans hS.2 hb7⟩
              have hrb := hr.2.2
              refine ⟨_, rfl, .inr hS7, ?_⟩
              simp only [Act.put, sA, sZ, sS]
              refine tk 15 51 (v := .int .i64 ((nn + 1 + key.length + r : Nat) : Int)) rfl rfl (fun W hW => exec_bini rfl rfl rfl (add_big (by omega) W)) ?_
              simp only [Act.put, sA, sZ, sS]
              refine tk 16 5 (v := .int .i64 ((nn + 1 + key.length + r : Nat) : Int)) rfl rfl (fun W hW => exec_assign rfl rfl) ?_
              simp only [Act.put, sA, sZ, sS]
              refine done (by kernel_rfl) ?_ _
              have HB := Lib.hid (And.intro hS7.2 (And.intro hr (And.intro hst htp)))
              have hnew : nn + 1 + key.length + r ≤ 1125899906842624 := by omega
              have HN := Lib.hid (show (nn + 1 + key.length + r ≤ 3000 → 1 + totLs ls + ((ps.take (j2 + 1)).map totP).sum ≤ nn + 1 + key.length + r) from fun h => by
                have h1 := HQ.out.1 (by omega)
                have h2 := hr.1
                have h3 := hr.2.1
                rw [hst, htp]
                by_cases h4 : 3000 < totV val
                · have := h3 h4; omega
                · have := h2 (by omega); omega)
              clear hia hf0 hf1 hS0 hk0 hlv hcall hkl hst htp hS hS7 hb7 hr hrb HX HQ
              generalize nn + 1 + key.length + r = nx at *
              go_wp2
              go_roundw
              case rel => exact ⟨j2 + 1, nx, hlt3, by go_num, rfl, hnew, Lib.hid ⟨HN.out, HB.out.1⟩⟩
              case measure => simp [intOf]; omega
            · have hle1 : ¬ (nn : Int) ≤ 3000 := by omega
              have hle0 : decide ((nn : Int) ≤ 3000) = false := by simpa using hle1
              have HF2 := Lib.hid (And.intro hle HQ.out.2)
              clear HQ
              go_wp2
              go_ret
              exact ⟨nn, rfl, ⟨fun h => absurd h HF2.out.1, hnb2⟩, HF2.out.2⟩
          · obtain rfl : j2 = ps.length := by omega
            have HF2 := Lib.hid HQ.out
            clear HQ
            go_wp2
            go_ret
            refine ⟨nn, rfl, ⟨fun h => ?_, hnb2⟩, HF2.out.2⟩
            have := HF2.out.1 h
            rw [List.take_length] at this
            exact this
    · obtain rfl : j = ls.length := by omega
      have HF := Lib.hid (show (nn ≤ 3000 → 1 + totLs ls ≤ nn) ∧ Below w.heap.size w wr from ⟨fun h => by have := HS.out.1 h; rw [List.take_length] at this; exact this, HS.out.2⟩)
      clear HS
      go_wp2
      go_loopw [5, 7] (fun m i W => ∃ j2 nn : Nat, j2 ≤ ps.length ∧ i = .int .i64 (j2 : Int) ∧ m = .int .i64 (nn : Int) ∧ nn ≤ 1125899906842624 ∧ Hid ((nn ≤ 3000 → 1 + totLs ls + ((ps.take j2).map totP).sum ≤ nn) ∧ Below w.heap.size w W)) (fun _ i _ => ps.length - (intOf i).toNat)
      case atStart => exact ⟨0, nn, Nat.zero_le _, rfl, rfl, by omega, Lib.hid ⟨fun h => by have := HF.out.1 h; simp only [List.take_zero, List.map_nil, List.sum_nil]; omega, HF.out.2⟩⟩
      case round =>
        clear HF
        obtain ⟨j2, nn, hj2, rfl, rfl, hnb2, HQ⟩ := hrel
        have z5 : (nn : Int) ≤ 1125899906842624 := by omega
        by_cases hlt2 : j2 < ps.length
        · have hlt3 : j2 + 1 ≤ ps.length := hlt2
          by_cases hle : nn ≤ 3000
          · have hle1 : (nn : Int) ≤ 3000 := by omega
            obtain ⟨b, of, cs, rfl, hs, hc0, hv⟩ := HP.out.get hlt2
            have hc : ∀ (k : Nat) (u : Value), cs[k]? = some u → wr.cell? ⟨b, of + j2 * 7 + k, none⟩ = some u := fun k u hu => belowCell HQ.out.2 (ltOf (hc0 k u hu)) (hc0 k u hu)
            have hst := sum_take totP hlt2
            have hia : ∀ W' : World, (Instr.indexAt 68 (.slice (some ⟨b, of, none⟩) ps.length cp) (.int .i64 (j2 : Int))).run Tryz.prog W' = .ok (.pointer (some ⟨b, of + j2 * 7, none⟩)) W' := by intro W'; simp [go_sem, hlt2]
            have hf0 : ∀ W' : World, (Instr.fieldAt 136 (.pointer (some ⟨b, of + j2 * 7, none⟩)) 0).run Tryz.prog W' = .ok (.pointer (some ⟨b, of + j2 * 7, none⟩)) W' := by intro W'; simp [go_sem]
            have hf1 : ∀ W' : World, (Instr.fieldAt 136 (.pointer (some ⟨b, of + j2 * 7, none⟩)) 1).run Tryz.prog W' = .ok (.pointer (some ⟨b, of + j2 * 7 + 1, none⟩)) W' := by intro W'; simp [go_sem]
            have hS0 : (∀ (k : Nat) (u : Value), cs[k]? = some u → wr.drew.cell? ⟨b, of + j2 * 7 + k, none⟩ = some u) ∧ Below w.heap.size w wr.drew := ⟨fun k u hu => hc k u hu, HQ.out.2.drew⟩
            have htp : totP ps[j2] = 1 + ps[j2].key.length + totV ps[j2].val := rfl
            obtain ⟨y, ey, hkl, hvv⟩ := hv
            have hys : y.size = 6 := ef_val.size hvv
            generalize totP ps[j2] = tp at *
            generalize ps[j2].key = key at *
            generalize ps[j2].val = val at *
            have hk0 : cs[0]? = some (.string (strB key)) := by rw [ey, Array.getElem?_append_left (by simp)]; rfl
            have hky : ∀ (i : Nat) (u : Value), y[i]? = some u → cs[1 + i]? = some u := fun i u hu => by
              rw [ey, Array.getElem?_append_right (by simp)]
              simpa using hu
            have hlv : ∀ W : World, ((∀ (k : Nat) (u : Value), cs[k]? = some u → W.cell? ⟨b, of + j2 * 7 + k, none⟩ = some u) ∧ Below w.heap.size w W) → (loadVar 48 ⟨b, of + j2 * 7 + 1, none⟩).run Tryz.prog W = .ok (.agg y) W := fun W h => StT.load st_val hys fun i u hu => by
              rw [Nat.add_assoc]; exact h.1 _ _ (hky i u hu)
            have hvw0 := hvv
            have hcall : ∀ W, Below w.heap.size w W → Calls Tryz.prog 19 #[.agg y, .int .i64 3000] W fun e w' => (∃ r : Nat, e = .returned (.int .i64 (r : Int)) ∧ SizeLo 3000 (totV val) r) ∧ Below W.heap.size W w' := fun W g => vsz_any val 3000 (Nat.le_refl _) W y (hvw0.below g)
            have HX := Lib.hid (And.intro hia (And.intro hf0 (And.intro hf1 (And.intro hS0 (And.intro hk0 (And.intro hlv (And.intro hcall (And.intro hkl (And.intro hst htp)))))))))
            clear hia hf0 hf1 hS0 hk0 hky hlv hcall hkl hst hc hvv hvw0 ey hc0 hs htp
            go_wp2
            obtain ⟨hia, hf0, hf1, hS0, hk0, hlv, hcall, hkl, hst, htp⟩ := HX.out
            refine plain_region_draws (fun W => (∀ (k : Nat) (u : Value), cs[k]? = some u → W.cell? ⟨b, of + j2 * 7 + k, none⟩ = some u) ∧ Below w.heap.size w W) (by kernel_rfl) hS0 (fun hS => ?_)
            refine tk 0 36 (v := .int .i64 (nn : Int)) rfl rfl (fun W hW => exec_move rfl rfl) ?_
            simp only [Act.put, sA, sZ, sS]
            refine tk 1 37 (v := .int .i64 ((nn + 1 : Nat) : Int)) rfl rfl (fun W hW => exec_bini rfl rfl rfl (add_one' (by omega) W)) ?_
            simp only [Act.put, sA, sZ, sS]
            refine tk 2 38 (v := .slice (some ⟨b, of, none⟩) ps.length cp) rfl rfl (fun W hW => exec_move rfl rfl) ?_
            simp only [Act.put, sA, sZ, sS]
            refine tk 3 39 (v := .int .i64 (j2 : Int)) rfl rfl (fun W hW => exec_move rfl rfl) ?_
            simp only [Act.put, sA, sZ, sS]
            refine tk 4 40 (v := .pointer (some ⟨b, of + j2 * 7, none⟩)) rfl rfl (fun W hW => exec_indexAddr rfl rfl rfl (hia W)) ?_
            simp only [Act.put, sA, sZ, sS]
            refine tk 5 41 (v := .pointer (some ⟨b, of + j2 * 7, none⟩)) rfl rfl (fun W hW => exec_fieldAddr rfl rfl (hf0 W)) ?_
            simp only [Act.put, sA, sZ, sS]
            refine tk 6 42 (v := .string (strB key)) rfl rfl (fun W hW => exec_load rfl rfl (run_load1 (w := W) Tryz.underlying9 rfl (hW.1 0 _ hk0))) ?_
            simp only [Act.put, sA, sZ, sS]
            refine tk 7 43 (v := .int .i64 (key.length : Int)) rfl rfl (fun W hW => exec_lenQ rfl rfl) ?_
            simp only [Act.put, sA, sZ, sS]
            refine tk 8 44 (v := .int .i64 ((nn + 1 + key.length : Nat) : Int)) rfl rfl (fun W hW => exec_bini rfl rfl rfl (add_big (by omega) W)) ?_
            simp only [Act.put, sA, sZ, sS]
            refine tk 9 45 (v := .slice (some ⟨b, of, none⟩) ps.length cp) rfl rfl (fun W hW => exec_move rfl rfl) ?_
            simp only [Act.put, sA, sZ, sS]
            refine tk 10 46 (v := .int .i64 (j2 : Int)) rfl rfl (fun W hW => exec_move rfl rfl) ?_
            simp only [Act.put, sA, sZ, sS]
            refine tk 11 47 (v := .pointer (some ⟨b, of + j2 * 7, none⟩)) rfl rfl (fun W hW => exec_indexAddr rfl rfl rfl (hia W)) ?_
            simp only [Act.put, sA, sZ, sS]
            refine tk 12 48 (v := .pointer (some ⟨b, of + j2 * 7 + 1, none⟩)) rfl rfl (fun W hW => exec_fieldAddr rfl rfl (hf1 W)) ?_
            simp only [Act.put, sA, sZ, sS]
            refine tk 13 49 (v := .agg y) rfl rfl (fun W hW => exec_load rfl rfl (hlv W hW)) ?_
            simp only [Act.put, sA, sZ, sS]
            refine onlyCall 14 50 rfl rfl (by kernel_rfl) rfl (exec_call [.agg y, .int .i64 3000] rfl rfl Tryz.func19 (by kernel_rfl) (by kernel_rfl)) ?_
            refine (hcall _ hS.2).mono ?_
            rintro e w7 ⟨⟨r, rfl, hr⟩, hb7⟩
            have hS7 : (∀ (k : Nat) (u : Value), cs[k]? = some u → w7.cell? ⟨b, of + j2 * 7 + k, none⟩ = some u) ∧ Below w.heap.size w w7 := ⟨fun k u hu => belowCell hb7 (ltOf (hS.1 k u hu)) (hS.1 k u hu), below_trans hS.2 hb7⟩
            have hrb := hr.2.2
            refine ⟨_, rfl, .inr hS7, ?_⟩
            simp only [Act.put, sA, sZ, sS]
            refine tk 15 51 (v := .int .i64 ((nn + 1 + key.length + r : Nat) : Int)) rfl rfl (fun W hW => exec_bini rfl rfl rfl (add_big (by omega) W)) ?_
            simp only [Act.put, sA, sZ, sS]
            refine tk 16 5 (v := .int .i64 ((nn + 1 + key.length + r : Nat) : Int)) rfl rfl (fun W hW => exec_assign rfl rfl) ?_
            simp only [Act.put, sA, sZ, sS]
            refine done (by kernel_rfl) ?_ _
            have HB := Lib.hid (And.intro hS7.2 (And.intro hr (And.intro hst htp)))
            have hnew : nn + 1 + key.length + r ≤ 1125899906842624 := by omega
            have HN := Lib.hid (show (nn + 1 + key.length + r ≤ 3000 → 1 + totLs ls + ((ps.take (j2 + 1)).map totP).sum ≤ nn + 1 + key.length + r) from fun h => by
              have h1 := HQ.out.1 (by omega)
              have h2 := hr.1
              have h3 := hr.2.1
              rw [hst, htp]
              by_cases h4 : 3000 < totV val
              · have := h3 h4; omega
              · have := h2 (by omega); omega)
            clear hia hf0 hf1 hS0 hk0 hlv hcall hkl hst htp hS hS7 hb7 hr hrb HX HQ
            generalize nn + 1 + key.length + r = nx at *
            go_wp2
            go_roundw
            case rel => exact ⟨j2 + 1, nx, hlt3, by go_num, rfl, hnew, Lib.hid ⟨HN.out, HB.out.1⟩⟩
            case measure => simp [intOf]; omega
          · have hle1 : ¬ (nn : Int) ≤ 3000 := by omega
            have hle0 : decide ((nn : Int) ≤ 3000) = false := by simpa using hle1
            have HF2 := Lib.hid (And.intro hle HQ.out.2)
            clear HQ
            go_wp2
            go_ret
            exact ⟨nn, rfl, ⟨fun h => absurd h HF2.out.1, hnb2⟩, HF2.out.2⟩
        · obtain rfl : j2 = ps.length := by omega
          have HF2 := Lib.hid HQ.out
          clear HQ
          go_wp2
          go_ret
          refine ⟨nn, rfl, ⟨fun h => ?_, hnb2⟩, HF2.out.2⟩
          have := HF2.out.1 h
          rw [List.take_length] at this
          exact this
end Go.Proofs.YthdfedfholmbmaaGreatDoor

namespace Go.Proofs.YthdfedfholmbmaaGreatDoor
open Go.RowKit
theorem rds_nil {W : World} : RdS W none 0 [] := ⟨Nat.le_refl _, ⟨by simp, by omega⟩, (fun _ => rfl), (fun s hs => by cases hs), fun ad h => by cases h⟩
def SmOk (g : GraphD) (b : Bool) : Prop := b = true → totG g ≤ 3000
def SmPost (w : World) (g : GraphD) (e : Ending) (w' : World) : Prop := ∃ b, e = .returned (.bool b) ∧ SmOk g b ∧ Below w.heap.size w w'
theorem smallG_any {w : World} {g : GraphD} {x : Array Value} (h : GrRd w g x) : Calls Tryz.prog 9 #[.agg x] w (SmPost w g) := by
  obtain ⟨pn, cn, pr, cr, rfl, hn, hrl⟩ := h
  have z1 : (g.nodes.length : Int) ≤ 140737488355328 := by have := hn.1.2.1; omega
  have z2 : (g.rels.length : Int) ≤ 140737488355328 := by have := hrl.1.2.1; omega
  have hb := below_new (w := w) (.cells #[.slice pn g.nodes.length cn, .slice pr g.rels.length cr, .int .i64 g.nextNode, .int .i64 g.nextRel] 25)
  have hg := heap_alloc_new w (.cells #[.slice pn g.nodes.length cn, .slice pr g.rels.length cr, .int .i64 g.nextNode, .int .i64 g.nextRel] 25)
  have hn1 := hn.below (fun h => h.below hb) hb
  have hr1 := hrl.below (fun h => h.below hb) hb
  have hlt0 := Array.getElem?_eq_some_iff.1 hg |>.1
  have H := Lib.hid (And.intro hn1 (And.intro hr1 (And.intro hg hlt0)))
  have HB0 := Lib.hid hb
  have HTG := Lib.hid (show totG g = (g.nodes.map totN).sum + (g.rels.map totR).sum from rfl)
  clear hn hrl hb hg hn1 hr1 hlt0
  go_enter Tryz.func9, Tryz.ntmps9
  go_wp2
  generalize w.alloc (.cells #[.slice pn g.nodes.length cn, .slice pr g.rels.length cr, .int .i64 g.nextNode, .int .i64 g.nextRel] 25) = w1 at *
  go_loopw [3, 4] (fun m i W => ∃ j nn : Nat, j ≤ g.nodes.length ∧ i = .int .i64 (j : Int) ∧ m = .int .i64 (nn : Int) ∧ nn ≤ 2251799813685248 ∧ Hid ((nn ≤ 3000 → ((g.nodes.take j).map totN).sum ≤ nn) ∧ Below w1.heap.size w1 W)) (fun _ i _ => g.nodes.length - (intOf i).toNat)
  case atStart => exact ⟨0, 0, Nat.zero_le _, rfl, rfl, by omega, Lib.hid ⟨fun _ => by simp, Below.refl _ _⟩⟩
  case round =>
    obtain ⟨j, nn, hj, rfl, rfl, hnb, HS⟩ := hrel
    have z5 : (nn : Int) ≤ 2251799813685248 := by omega
    obtain ⟨hn1, hr1, hg, hlt0⟩ := H.out
    have hcl0 := cellOf (o := 0) (belowBlk HS.out.2 hlt0 hg) rfl
    clear hn1 hr1 hg hlt0
    by_cases hlt : j < g.nodes.length
    · have hlt1 : j + 1 ≤ g.nodes.length := hlt
      by_cases hle : nn ≤ 3000
      · have hle1 : (nn : Int) ≤ 3000 := by omega
        obtain ⟨hn1, hr1, hg, hlt0⟩ := H.out
        obtain ⟨b, of, cs, rfl, hs, hc0, hv⟩ := hn1.get hlt
        have hc : ∀ (k : Nat) (u : Value), cs[k]? = some u → wr.cell? ⟨b, of + j * 3 + k, none⟩ = some u := fun k u hu => belowCell HS.out.2 (ltOf (hc0 k u hu)) (hc0 k u hu)
        have hst := sum_take totN hlt
        have htn : totN g.nodes[j] = 1 + totLs g.nodes[j].labels + totPs g.nodes[j].props := rfl
        obtain ⟨pl, cl, pp, cp, ecs, hls, hps⟩ := hv
        generalize totN g.nodes[j] = tn at *
        generalize g.nodes[j].labels = ls at *
        generalize g.nodes[j].props = ps at *
        have hc1 : cs[1]? = some (.slice pl ls.length cl) := by rw [ecs]; rfl
        have hc2 : cs[2]? = some (.slice pp ps.length cp) := by rw [ecs]; rfl
        have hia : ∀ W' : World, (Instr.indexAt 22 (.slice (some ⟨b, of, none⟩) g.nodes.length cn) (.int .i64 (j : Int))).run Tryz.prog W' = .ok (.pointer (some ⟨b, of + j * 3, none⟩)) W' := by intro W'; simp [go_sem, hlt]
        have hf1 : ∀ W' : World, (Instr.fieldAt 70 (.pointer (some ⟨b, of + j * 3, none⟩)) 1).run Tryz.prog W' = .ok (.pointer (some ⟨b, of + j * 3 + 1, none⟩)) W' := by intro W'; simp [go_sem]
        have hf2 : ∀ W' : World, (Instr.fieldAt 70 (.pointer (some ⟨b, of + j * 3, none⟩)) 2).run Tryz.prog W' = .ok (.pointer (some ⟨b, of + j * 3 + 2, none⟩)) W' := by intro W'; simp [go_sem]
        have hg0 : ∀ W' : World, (Instr.fieldAt 25 (.pointer (some ⟨w.heap.size, 0, none⟩)) 0).run Tryz.prog W' = .ok (.pointer (some ⟨w.heap.size, 0, none⟩)) W' := by intro W'; simp [go_sem]
        have hln : ∀ W, Below w1.heap.size w1 W → (loadVar 22 ⟨w.heap.size, 0, none⟩).run Tryz.prog W = .ok (.slice (some ⟨b, of, none⟩) g.nodes.length cn) W := fun W q => ld_cell Tryz.underlying22 rfl q hg rfl
        have hcall13 : ∀ W, Below w1.heap.size w1 W → Calls Tryz.prog 36 #[.slice pl ls.length cl, .slice pp ps.length cp] W fun e w' => ∃ r : Nat, e = .returned (.int .i64 (r : Int)) ∧ Szo (1 + totLs ls + totPs ps) r ∧ Below W.heap.size W w' := fun W q => psz_any (hls.below q) (hps.below (fun h => h.below q) q)
        have hS0 : (∀ (k : Nat) (u : Value), cs[k]? = some u → wr.drew.cell? ⟨b, of + j * 3 + k, none⟩ = some u) ∧ Below w1.heap.size w1 wr.drew := ⟨fun k u hu => hc k u hu, HS.out.2.drew⟩
        have HX := Lib.hid (And.intro hia (And.intro hf1 (And.intro hf2 (And.intro hg0 (And.intro hln (And.intro hcall13 (And.intro hS0 (And.intro hc1 (And.intro hc2 (And.intro hst htn))))))))))
        clear hia hf1 hf2 hg0 hln hcall13 hS0 hc1 hc2 hst htn hn1 hr1 hg hlt0 hc hc0 hls hps ecs hs
        go_wp2
        obtain ⟨hia, hf1, hf2, hg0, hln, hcall13, hS0, hc1, hc2, hst, htn⟩ := HX.out
        refine plain_region_draws (fun W => (∀ (k : Nat) (u : Value), cs[k]? = some u → W.cell? ⟨b, of + j * 3 + k, none⟩ = some u) ∧ Below w1.heap.size w1 W) (by kernel_rfl) hS0 (fun hS => ?_)
        refine tk 0 17 (v := .int .i64 (nn : Int)) rfl rfl (fun W hW => exec_move rfl rfl) ?_
        simp only [Act.put, sA, sZ, sS]
        refine tk 1 18 (v := .pointer (some ⟨w.heap.size, 0, none⟩)) rfl rfl (fun W hW => exec_fieldAddr rfl rfl (hg0 W)) ?_
        simp only [Act.put, sA, sZ, sS]
        refine tk 2 19 (v := .slice (some ⟨b, of, none⟩) g.nodes.length cn) rfl rfl (fun W hW => exec_load rfl rfl (hln W hW.2)) ?_
        simp only [Act.put, sA, sZ, sS]
        refine tk 3 20 (v := .int .i64 (j : Int)) rfl rfl (fun W hW => exec_move rfl rfl) ?_
        simp only [Act.put, sA, sZ, sS]
        refine tk 4 21 (v := .pointer (some ⟨b, of + j * 3, none⟩)) rfl rfl (fun W hW => exec_indexAddr rfl rfl rfl (hia W)) ?_
        simp only [Act.put, sA, sZ, sS]
        refine tk 5 22 (v := .pointer (some ⟨b, of + j * 3 + 1, none⟩)) rfl rfl (fun W hW => exec_fieldAddr rfl rfl (hf1 W)) ?_
        simp only [Act.put, sA, sZ, sS]
        refine tk 6 23 (v := .slice pl ls.length cl) rfl rfl (fun W hW => exec_load rfl rfl (run_load1 (w := W) Tryz.underlying45 rfl (hW.1 1 _ hc1))) ?_
        simp only [Act.put, sA, sZ, sS]
        refine tk 7 24 (v := .pointer (some ⟨w.heap.size, 0, none⟩)) rfl rfl (fun W hW => exec_fieldAddr rfl rfl (hg0 W)) ?_
        simp only [Act.put, sA, sZ, sS]
        refine tk 8 25 (v := .slice (some ⟨b, of, none⟩) g.nodes.length cn) rfl rfl (fun W hW => exec_load rfl rfl (hln W hW.2)) ?_
        simp only [Act.put, sA, sZ, sS]
        refine tk 9 26 (v := .int .i64 (j : Int)) rfl rfl (fun W hW => exec_move rfl rfl) ?_
        simp only [Act.put, sA, sZ, sS]
        refine tk 10 27 (v := .pointer (some ⟨b, of + j * 3, none⟩)) rfl rfl (fun W hW => exec_indexAddr rfl rfl rfl (hia W)) ?_
        simp only [Act.put, sA, sZ, sS]
        refine tk 11 28 (v := .pointer (some ⟨b, of + j * 3 + 2, none⟩)) rfl rfl (fun W hW => exec_fieldAddr rfl rfl (hf2 W)) ?_
        simp only [Act.put, sA, sZ, sS]
        refine tk 12 29 (v := .slice pp ps.length cp) rfl rfl (fun W hW => exec_load rfl rfl (run_load1 (w := W) Tryz.underlying68 rfl (hW.1 2 _ hc2))) ?_
        simp only [Act.put, sA, sZ, sS]
        refine onlyCall 13 30 rfl rfl (by kernel_rfl) rfl (exec_call [.slice pl ls.length cl, .slice pp ps.length cp] rfl rfl Tryz.func36 (by kernel_rfl) (by kernel_rfl)) ?_
        refine (hcall13 _ hS.2).mono ?_
        rintro e w13 ⟨r, rfl, hr, hb13⟩
        have hS13 : (∀ (k : Nat) (u : Value), cs[k]? = some u → w13.cell? ⟨b, of + j * 3 + k, none⟩ = some u) ∧ Below w1.heap.size w1 w13 := ⟨fun k u hu => belowCell hb13 (ltOf (hS.1 k u hu)) (hS.1 k u hu), below_trans hS.2 hb13⟩
        have hbr := hr.2
        refine ⟨_, rfl, .inr hS13, ?_⟩
        simp only [Act.put, sA, sZ, sS]
        refine tk 14 31 (v := .int .i64 ((nn + r : Nat) : Int)) rfl rfl (fun W hW => exec_bini rfl rfl rfl (add_big (by omega) W)) ?_
        simp only [Act.put, sA, sZ, sS]
        refine tk 15 3 (v := .int .i64 ((nn + r : Nat) : Int)) rfl rfl (fun W hW => exec_assign rfl rfl) ?_
        simp only [Act.put, sA, sZ, sS]
        refine done (by kernel_rfl) ?_ _
        have hnew : nn + r ≤ 2251799813685248 := by omega
        have HN := Lib.hid (show (nn + r ≤ 3000 → ((g.nodes.take (j + 1)).map totN).sum ≤ nn + r) ∧ Below w1.heap.size w1 w13 from ⟨fun h => by
          have h1 := HS.out.1 (by omega)
          have h2 := hr.1 (by omega)
          rw [hst, htn]; omega, hS13.2⟩)
        clear hia hf1 hf2 hg0 hln hcall13 hS0 hc1 hc2 hst htn hS hS13 hb13 hr hbr HX HS
        generalize nn + r = nx at *
        go_wp2
        go_roundw
        case rel => exact ⟨j + 1, nx, hlt1, by go_num, rfl, hnew, HN⟩
        case measure => simp [intOf]; omega
      · have hle1 : ¬ (nn : Int) ≤ 3000 := by omega
        have hle0 : decide ((nn : Int) ≤ 3000) = false := by simpa using hle1
        have HF := Lib.hid (show (nn ≤ 3000 → (g.nodes.map totN).sum ≤ nn) ∧ Below w1.heap.size w1 wr from ⟨fun h => absurd h hle, HS.out.2⟩)
        clear HS hle
        go_wp2
        clear hcl0
        go_loopw [3, 5] (fun m i W => ∃ j2 nn : Nat, j2 ≤ g.rels.length ∧ i = .int .i64 (j2 : Int) ∧ m = .int .i64 (nn : Int) ∧ nn ≤ 4503599627370496 ∧ Hid ((nn ≤ 3000 → (g.nodes.map totN).sum + ((g.rels.take j2).map totR).sum ≤ nn) ∧ Below w1.heap.size w1 W)) (fun _ i _ => g.rels.length - (intOf i).toNat)
        case atStart => exact ⟨0, nn, Nat.zero_le _, rfl, rfl, by omega, Lib.hid ⟨fun h => by have := HF.out.1 h; simp only [List.take_zero, List.map_nil, List.sum_nil]; omega, HF.out.2⟩⟩
        case round =>
          clear HF
          obtain ⟨j2, nn, hj2, rfl, rfl, hnb2, HS⟩ := hrel
          have z5 : (nn : Int) ≤ 4503599627370496 := by omega
          obtain ⟨hn1, hr1, hg, hlt0⟩ := H.out
          have hcl1 := cellOf (o := 1) (belowBlk HS.out.2 hlt0 hg) rfl
          clear hn1 hr1 hg hlt0
          by_cases hlt2 : j2 < g.rels.length
          · have hlt3 : j2 + 1 ≤ g.rels.length := hlt2
            by_cases hle : nn ≤ 3000
            · have hle1 : (nn : Int) ≤ 3000 := by omega
              obtain ⟨hn1, hr1, hg, hlt0⟩ := H.out
              obtain ⟨b, of, cs, rfl, hs, hc0, hv⟩ := hr1.get hlt2
              have hc : ∀ (k : Nat) (u : Value), cs[k]? = some u → wr.cell? ⟨b, of + j2 * 5 + k, none⟩ = some u := fun k u hu => belowCell HS.out.2 (ltOf (hc0 k u hu)) (hc0 k u hu)
              have hst := sum_take totR hlt2
              have htn : totR g.rels[j2] = 1 + g.rels[j2].type.length + totPs g.rels[j2].props := rfl
              obtain ⟨pp, cp, ecs, hty, hps⟩ := hv
              generalize totR g.rels[j2] = tn at *
              generalize g.rels[j2].type = ty at *
              generalize g.rels[j2].props = ps at *
              have hc3 : cs[3]? = some (.string (strB ty)) := by rw [ecs]; rfl
              have hc4 : cs[4]? = some (.slice pp ps.length cp) := by rw [ecs]; rfl
              have hia : ∀ W' : World, (Instr.indexAt 23 (.slice (some ⟨b, of, none⟩) g.rels.length cr) (.int .i64 (j2 : Int))).run Tryz.prog W' = .ok (.pointer (some ⟨b, of + j2 * 5, none⟩)) W' := by intro W'; simp [go_sem, hlt2]
              have hf3 : ∀ W' : World, (Instr.fieldAt 72 (.pointer (some ⟨b, of + j2 * 5, none⟩)) 3).run Tryz.prog W' = .ok (.pointer (some ⟨b, of + j2 * 5 + 3, none⟩)) W' := by intro W'; simp [go_sem]
              have hf4 : ∀ W' : World, (Instr.fieldAt 72 (.pointer (some ⟨b, of + j2 * 5, none⟩)) 4).run Tryz.prog W' = .ok (.pointer (some ⟨b, of + j2 * 5 + 4, none⟩)) W' := by intro W'; simp [go_sem]
              have hg1 : ∀ W' : World, (Instr.fieldAt 25 (.pointer (some ⟨w.heap.size, 0, none⟩)) 1).run Tryz.prog W' = .ok (.pointer (some ⟨w.heap.size, 1, none⟩)) W' := by intro W'; simp [go_sem]
              have hlr : ∀ W, Below w1.heap.size w1 W → (loadVar 23 ⟨w.heap.size, 1, none⟩).run Tryz.prog W = .ok (.slice (some ⟨b, of, none⟩) g.rels.length cr) W := fun W q => ld_cell Tryz.underlying23 rfl q hg rfl
              have hcall15 : ∀ W, Below w1.heap.size w1 W → Calls Tryz.prog 36 #[.slice none 0 0, .slice pp ps.length cp] W fun e w' => ∃ r : Nat, e = .returned (.int .i64 (r : Int)) ∧ Szo (1 + totLs [] + totPs ps) r ∧ Below W.heap.size W w' := fun W q => psz_any (ls := []) rds_nil (hps.below (fun h => h.below q) q)
              have hS0 : (∀ (k : Nat) (u : Value), cs[k]? = some u → wr.drew.cell? ⟨b, of + j2 * 5 + k, none⟩ = some u) ∧ Below w1.heap.size w1 wr.drew := ⟨fun k u hu => hc k u hu, HS.out.2.drew⟩
              have HX := Lib.hid (And.intro hia (And.intro hf3 (And.intro hf4 (And.intro hg1 (And.intro hlr (And.intro hcall15 (And.intro hS0 (And.intro hc3 (And.intro hc4 (And.intro hst (And.intro htn hty)))))))))))
              clear hia hf3 hf4 hg1 hlr hcall15 hS0 hc3 hc4 hst htn hn1 hr1 hg hlt0 hc hc0 hty hps ecs hs
              go_wp2
              obtain ⟨hia, hf3, hf4, hg1, hlr, hcall15, hS0, hc3, hc4, hst, htn, hty⟩ := HX.out
              refine plain_region_draws (fun W => (∀ (k : Nat) (u : Value), cs[k]? = some u → W.cell? ⟨b, of + j2 * 5 + k, none⟩ = some u) ∧ Below w1.heap.size w1 W) (by kernel_rfl) hS0 (fun hS => ?_)
              refine tk 0 43 (v := .int .i64 (nn : Int)) rfl rfl (fun W hW => exec_move rfl rfl) ?_
              simp only [Act.put, sA, sZ, sS]
              refine tk 1 44 (v := .pointer (some ⟨w.heap.size, 1, none⟩)) rfl rfl (fun W hW => exec_fieldAddr rfl rfl (hg1 W)) ?_
              simp only [Act.put, sA, sZ, sS]
              refine tk 2 45 (v := .slice (some ⟨b, of, none⟩) g.rels.length cr) rfl rfl (fun W hW => exec_load rfl rfl (hlr W hW.2)) ?_
              simp only [Act.put, sA, sZ, sS]
              refine tk 3 46 (v := .int .i64 (j2 : Int)) rfl rfl (fun W hW => exec_move rfl rfl) ?_
              simp only [Act.put, sA, sZ, sS]
              refine tk 4 47 (v := .pointer (some ⟨b, of + j2 * 5, none⟩)) rfl rfl (fun W hW => exec_indexAddr rfl rfl rfl (hia W)) ?_
              simp only [Act.put, sA, sZ, sS]
              refine tk 5 48 (v := .pointer (some ⟨b, of + j2 * 5 + 3, none⟩)) rfl rfl (fun W hW => exec_fieldAddr rfl rfl (hf3 W)) ?_
              simp only [Act.put, sA, sZ, sS]
              refine tk 6 49 (v := .string (strB ty)) rfl rfl (fun W hW => exec_load rfl rfl (run_load1 (w := W) Tryz.underlying9 rfl (hW.1 3 _ hc3))) ?_
              simp only [Act.put, sA, sZ, sS]
              refine tk 7 50 (v := .int .i64 (ty.length : Int)) rfl rfl (fun W hW => exec_lenQ rfl rfl) ?_
              simp only [Act.put, sA, sZ, sS]
              refine tk 8 51 (v := .int .i64 ((nn + ty.length : Nat) : Int)) rfl rfl (fun W hW => exec_bini rfl rfl rfl (add_big (by omega) W)) ?_
              simp only [Act.put, sA, sZ, sS]
              refine tk 9 52 (v := .pointer (some ⟨w.heap.size, 1, none⟩)) rfl rfl (fun W hW => exec_fieldAddr rfl rfl (hg1 W)) ?_
              simp only [Act.put, sA, sZ, sS]
              refine tk 10 53 (v := .slice (some ⟨b, of, none⟩) g.rels.length cr) rfl rfl (fun W hW => exec_load rfl rfl (hlr W hW.2)) ?_
              simp only [Act.put, sA, sZ, sS]
              refine tk 11 54 (v := .int .i64 (j2 : Int)) rfl rfl (fun W hW => exec_move rfl rfl) ?_
              simp only [Act.put, sA, sZ, sS]
              refine tk 12 55 (v := .pointer (some ⟨b, of + j2 * 5, none⟩)) rfl rfl (fun W hW => exec_indexAddr rfl rfl rfl (hia W)) ?_
              simp only [Act.put, sA, sZ, sS]
              refine tk 13 56 (v := .pointer (some ⟨b, of + j2 * 5 + 4, none⟩)) rfl rfl (fun W hW => exec_fieldAddr rfl rfl (hf4 W)) ?_
              simp only [Act.put, sA, sZ, sS]
              refine tk 14 57 (v := .slice pp ps.length cp) rfl rfl (fun W hW => exec_load rfl rfl (run_load1 (w := W) Tryz.underlying68 rfl (hW.1 4 _ hc4))) ?_
              simp only [Act.put, sA, sZ, sS]
              refine onlyCall 15 58 rfl rfl (by kernel_rfl) rfl (exec_call [.slice none 0 0, .slice pp ps.length cp] rfl rfl Tryz.func36 (by kernel_rfl) (by kernel_rfl)) ?_
              refine (hcall15 _ hS.2).mono ?_
              rintro e w15 ⟨r, rfl, hr, hb15⟩
              have hS15 : (∀ (k : Nat) (u : Value), cs[k]? = some u → w15.cell? ⟨b, of + j2 * 5 + k, none⟩ = some u) ∧ Below w1.heap.size w1 w15 := ⟨fun k u hu => belowCell hb15 (ltOf (hS.1 k u hu)) (hS.1 k u hu), below_trans hS.2 hb15⟩
              have hbr := hr.2
              refine ⟨_, rfl, .inr hS15, ?_⟩
              simp only [Act.put, sA, sZ, sS]
              refine tk 16 59 (v := .int .i64 ((nn + ty.length + r : Nat) : Int)) rfl rfl (fun W hW => exec_bini rfl rfl rfl (add_big (by omega) W)) ?_
              simp only [Act.put, sA, sZ, sS]
              refine tk 17 3 (v := .int .i64 ((nn + ty.length + r : Nat) : Int)) rfl rfl (fun W hW => exec_assign rfl rfl) ?_
              simp only [Act.put, sA, sZ, sS]
              refine done (by kernel_rfl) ?_ _
              have hnew : nn + ty.length + r ≤ 4503599627370496 := by omega
              have HN := Lib.hid (show (nn + ty.length + r ≤ 3000 → (g.nodes.map totN).sum + ((g.rels.take (j2 + 1)).map totR).sum ≤ nn + ty.length + r) ∧ Below w1.heap.size w1 w15 from ⟨fun h => by
                have h1 := HS.out.1 (by omega)
                have h2 := hr.1 (by omega)
                have h3 : totLs [] = 0 := rfl
                rw [hst, htn]; omega, hS15.2⟩)
              clear hia hf3 hf4 hg1 hlr hcall15 hS0 hc3 hc4 hst htn hS hS15 hb15 hr hbr HX HS hty
              generalize nn + ty.length + r = nx at *
              go_wp2
              go_roundw
              case rel => exact ⟨j2 + 1, nx, hlt3, by go_num, rfl, hnew, HN⟩
              case measure => simp [intOf]; omega
            · have hle1 : ¬ (nn : Int) ≤ 3000 := by omega
              have hle0 : decide ((nn : Int) ≤ 3000) = false := by simpa using hle1
              have HF2 := Lib.hid (below_trans HB0.out HS.out.2)
              clear HS
              go_wp2
              go_ret
              exact ⟨false, rfl, (fun h => by cases h), HF2.out⟩
          · obtain rfl : j2 = g.rels.length := by omega
            have HF2 := Lib.hid (And.intro HS.out.1 (below_trans HB0.out HS.out.2))
            clear HS
            by_cases hle : nn ≤ 3000
            · have hle1 : (nn : Int) ≤ 3000 := by omega
              go_wp2
              go_ret
              refine ⟨true, rfl, fun _ => ?_, HF2.out.2⟩
              have := HF2.out.1 hle
              rw [List.take_length] at this
              rw [HTG.out]; omega
            · have hle1 : ¬ (nn : Int) ≤ 3000 := by omega
              have hle0 : decide ((nn : Int) ≤ 3000) = false := by simpa using hle1
              go_wp2
              go_ret
              exact ⟨false, rfl, (fun h => by cases h), HF2.out.2⟩
    · obtain rfl : j = g.nodes.length := by omega
      have HF := Lib.hid (show (nn ≤ 3000 → (g.nodes.map totN).sum ≤ nn) ∧ Below w1.heap.size w1 wr from ⟨fun h => by have := HS.out.1 h; rw [List.take_length] at this; exact this, HS.out.2⟩)
      clear HS
      go_wp2
      clear hcl0
      go_loopw [3, 5] (fun m i W => ∃ j2 nn : Nat, j2 ≤ g.rels.length ∧ i = .int .i64 (j2 : Int) ∧ m = .int .i64 (nn : Int) ∧ nn ≤ 4503599627370496 ∧ Hid ((nn ≤ 3000 → (g.nodes.map totN).sum + ((g.rels.take j2).map totR).sum ≤ nn) ∧ Below w1.heap.size w1 W)) (fun _ i _ => g.rels.length - (intOf i).toNat)
      case atStart => exact ⟨0, nn, Nat.zero_le _, rfl, rfl, by omega, Lib.hid ⟨fun h => by have := HF.out.1 h; simp only [List.take_zero, List.map_nil, List.sum_nil]; omega, HF.out.2⟩⟩
      case round =>
        clear HF
        obtain ⟨j2, nn, hj2, rfl, rfl, hnb2, HS⟩ := hrel
        have z5 : (nn : Int) ≤ 4503599627370496 := by omega
        obtain ⟨hn1, hr1, hg, hlt0⟩ := H.out
        have hcl1 := cellOf (o := 1) (belowBlk HS.out.2 hlt0 hg) rfl
        clear hn1 hr1 hg hlt0
        by_cases hlt2 : j2 < g.rels.length
        · have hlt3 : j2 + 1 ≤ g.rels.length := hlt2
          by_cases hle : nn ≤ 3000
          · have hle1 : (nn : Int) ≤ 3000 := by omega
            obtain ⟨hn1, hr1, hg, hlt0⟩ := H.out
            obtain ⟨b, of, cs, rfl, hs, hc0, hv⟩ := hr1.get hlt2
            have hc : ∀ (k : Nat) (u : Value), cs[k]? = some u → wr.cell? ⟨b, of + j2 * 5 + k, none⟩ = some u := fun k u hu => belowCell HS.out.2 (ltOf (hc0 k u hu)) (hc0 k u hu)
            have hst := sum_take totR hlt2
            have htn : totR g.rels[j2] = 1 + g.rels[j2].type.length + totPs g.rels[j2].props := rfl
            obtain ⟨pp, cp, ecs, hty, hps⟩ := hv
            generalize totR g.rels[j2] = tn at *
            generalize g.rels[j2].type = ty at *
            generalize g.rels[j2].props = ps at *
            have hc3 : cs[3]? = some (.string (strB ty)) := by rw [ecs]; rfl
            have hc4 : cs[4]? = some (.slice pp ps.length cp) := by rw [ecs]; rfl
            have hia : ∀ W' : World, (Instr.indexAt 23 (.slice (some ⟨b, of, none⟩) g.rels.length cr) (.int .i64 (j2 : Int))).run Tryz.prog W' = .ok (.pointer (some ⟨b, of + j2 * 5, none⟩)) W' := by intro W'; simp [go_sem, hlt2]
            have hf3 : ∀ W' : World, (Instr.fieldAt 72 (.pointer (some ⟨b, of + j2 * 5, none⟩)) 3).run Tryz.prog W' = .ok (.pointer (some ⟨b, of + j2 * 5 + 3, none⟩)) W' := by intro W'; simp [go_sem]
            have hf4 : ∀ W' : World, (Instr.fieldAt 72 (.pointer (some ⟨b, of + j2 * 5, none⟩)) 4).run Tryz.prog W' = .ok (.pointer (some ⟨b, of + j2 * 5 + 4, none⟩)) W' := by intro W'; simp [go_sem]
            have hg1 : ∀ W' : World, (Instr.fieldAt 25 (.pointer (some ⟨w.heap.size, 0, none⟩)) 1).run Tryz.prog W' = .ok (.pointer (some ⟨w.heap.size, 1, none⟩)) W' := by intro W'; simp [go_sem]
            have hlr : ∀ W, Below w1.heap.size w1 W → (loadVar 23 ⟨w.heap.size, 1, none⟩).run Tryz.prog W = .ok (.slice (some ⟨b, of, none⟩) g.rels.length cr) W := fun W q => ld_cell Tryz.underlying23 rfl q hg rfl
            have hcall15 : ∀ W, Below w1.heap.size w1 W → Calls Tryz.prog 36 #[.slice none 0 0, .slice pp ps.length cp] W fun e w' => ∃ r : Nat, e = .returned (.int .i64 (r : Int)) ∧ Szo (1 + totLs [] + totPs ps) r ∧ Below W.heap.size W w' := fun W q => psz_any (ls := []) rds_nil (hps.below (fun h => h.below q) q)
            have hS0 : (∀ (k : Nat) (u : Value), cs[k]? = some u → wr.drew.cell? ⟨b, of + j2 * 5 + k, none⟩ = some u) ∧ Below w1.heap.size w1 wr.drew := ⟨fun k u hu => hc k u hu, HS.out.2.drew⟩
            have HX := Lib.hid (And.intro hia (And.intro hf3 (And.intro hf4 (And.intro hg1 (And.intro hlr (And.intro hcall15 (And.intro hS0 (And.intro hc3 (And.intro hc4 (And.intro hst (And.intro htn hty)))))))))))
            clear hia hf3 hf4 hg1 hlr hcall15 hS0 hc3 hc4 hst htn hn1 hr1 hg hlt0 hc hc0 hty hps ecs hs
            go_wp2
            obtain ⟨hia, hf3, hf4, hg1, hlr, hcall15, hS0, hc3, hc4, hst, htn, hty⟩ := HX.out
            refine plain_region_draws (fun W => (∀ (k : Nat) (u : Value), cs[k]? = some u → W.cell? ⟨b, of + j2 * 5 + k, none⟩ = some u) ∧ Below w1.heap.size w1 W) (by kernel_rfl) hS0 (fun hS => ?_)
            refine tk 0 43 (v := .int .i64 (nn : Int)) rfl rfl (fun W hW => exec_move rfl rfl) ?_
            simp only [Act.put, sA, sZ, sS]
            refine tk 1 44 (v := .pointer (some ⟨w.heap.size, 1, none⟩)) rfl rfl (fun W hW => exec_fieldAddr rfl rfl (hg1 W)) ?_
            simp only [Act.put, sA, sZ, sS]
            refine tk 2 45 (v := .slice (some ⟨b, of, none⟩) g.rels.length cr) rfl rfl (fun W hW => exec_load rfl rfl (hlr W hW.2)) ?_
            simp only [Act.put, sA, sZ, sS]
            refine tk 3 46 (v := .int .i64 (j2 : Int)) rfl rfl (fun W hW => exec_move rfl rfl) ?_
            simp only [Act.put, sA, sZ, sS]
            refine tk 4 47 (v := .pointer (some ⟨b, of + j2 * 5, none⟩)) rfl rfl (fun W hW => exec_indexAddr rfl rfl rfl (hia W)) ?_
            simp only [Act.put, sA, sZ, sS]
            refine tk 5 48 (v := .pointer (some ⟨b, of + j2 * 5 + 3, none⟩)) rfl rfl (fun W hW => exec_fieldAddr rfl rfl (hf3 W)) ?_
            simp only [Act.put, sA, sZ, sS]
            refine tk 6 49 (v := .string (strB ty)) rfl rfl (fun W hW => exec_load rfl rfl (run_load1 (w := W) Tryz.underlying9 rfl (hW.1 3 _ hc3))) ?_
            simp only [Act.put, sA, sZ, sS]
            refine tk 7 50 (v := .int .i64 (ty.length : Int)) rfl rfl (fun W hW => exec_lenQ rfl rfl) ?_
            simp only [Act.put, sA, sZ, sS]
            refine tk 8 51 (v := .int .i64 ((nn + ty.length : Nat) : Int)) rfl rfl (fun W hW => exec_bini rfl rfl rfl (add_big (by omega) W)) ?_
            simp only [Act.put, sA, sZ, sS]
            refine tk 9 52 (v := .pointer (some ⟨w.heap.size, 1, none⟩)) rfl rfl (fun W hW => exec_fieldAddr rfl rfl (hg1 W)) ?_
            simp only [Act.put, sA, sZ, sS]
            refine tk 10 53 (v := .slice (some ⟨b, of, none⟩) g.rels.length cr) rfl rfl (fun W hW => exec_load rfl rfl (hlr W hW.2)) ?_
            simp only [Act.put, sA, sZ, sS]
            refine tk 11 54 (v := .int .i64 (j2 : Int)) rfl rfl (fun W hW => exec_move rfl rfl) ?_
            simp only [Act.put, sA, sZ, sS]
            refine tk 12 55 (v := .pointer (some ⟨b, of + j2 * 5, none⟩)) rfl rfl (fun W hW => exec_indexAddr rfl rfl rfl (hia W)) ?_
            simp only [Act.put, sA, sZ, sS]
            refine tk 13 56 (v := .pointer (some ⟨b, of + j2 * 5 + 4, none⟩)) rfl rfl (fun W hW => exec_fieldAddr rfl rfl (hf4 W)) ?_
            simp only [Act.put, sA, sZ, sS]
            refine tk 14 57 (v := .slice pp ps.length cp) rfl rfl (fun W hW => exec_load rfl rfl (run_load1 (w := W) Tryz.underlying68 rfl (hW.1 4 _ hc4))) ?_
            simp only [Act.put, sA, sZ, sS]
            refine onlyCall 15 58 rfl rfl (by kernel_rfl) rfl (exec_call [.slice none 0 0, .slice pp ps.length cp] rfl rfl Tryz.func36 (by kernel_rfl) (by kernel_rfl)) ?_
            refine (hcall15 _ hS.2).mono ?_
            rintro e w15 ⟨r, rfl, hr, hb15⟩
            have hS15 : (∀ (k : Nat) (u : Value), cs[k]? = some u → w15.cell? ⟨b, of + j2 * 5 + k, none⟩ = some u) ∧ Below w1.heap.size w1 w15 := ⟨fun k u hu => belowCell hb15 (ltOf (hS.1 k u hu)) (hS.1 k u hu), below_trans hS.2 hb15⟩
            have hbr := hr.2
            refine ⟨_, rfl, .inr hS15, ?_⟩
            simp only [Act.put, sA, sZ, sS]
            refine tk 16 59 (v := .int .i64 ((nn + ty.length + r : Nat) : Int)) rfl rfl (fun W hW => exec_bini rfl rfl rfl (add_big (by omega) W)) ?_
            simp only [Act.put, sA, sZ, sS]
            refine tk 17 3 (v := .int .i64 ((nn + ty.length + r : Nat) : Int)) rfl rfl (fun W hW => exec_assign rfl rfl) ?_
            simp only [Act.put, sA, sZ, sS]
            refine done (by kernel_rfl) ?_ _
            have hnew : nn + ty.length + r ≤ 4503599627370496 := by omega
            have HN := Lib.hid (show (nn + ty.length + r ≤ 3000 → (g.nodes.map totN).sum + ((g.rels.take (j2 + 1)).map totR).sum ≤ nn + ty.length + r) ∧ Below w1.heap.size w1 w15 from ⟨fun h => by
              have h1 := HS.out.1 (by omega)
              have h2 := hr.1 (by omega)
              have h3 : totLs [] = 0 := rfl
              rw [hst, htn]; omega, hS15.2⟩)
            clear hia hf3 hf4 hg1 hlr hcall15 hS0 hc3 hc4 hst htn hS hS15 hb15 hr hbr HX HS hty
            generalize nn + ty.length + r = nx at *
            go_wp2
            go_roundw
            case rel => exact ⟨j2 + 1, nx, hlt3, by go_num, rfl, hnew, HN⟩
            case measure => simp [intOf]; omega
          · have hle1 : ¬ (nn : Int) ≤ 3000 := by omega
            have hle0 : decide ((nn : Int) ≤ 3000) = false := by simpa using hle1
            have HF2 := Lib.hid (below_trans HB0.out HS.out.2)
            clear HS
            go_wp2
            go_ret
            exact ⟨false, rfl, (fun h => by cases h), HF2.out⟩
        · obtain rfl : j2 = g.rels.length := by omega
          have HF2 := Lib.hid (And.intro HS.out.1 (below_trans HB0.out HS.out.2))
          clear HS
          by_cases hle : nn ≤ 3000
          · have hle1 : (nn : Int) ≤ 3000 := by omega
            go_wp2
            go_ret
            refine ⟨true, rfl, fun _ => ?_, HF2.out.2⟩
            have := HF2.out.1 hle
            rw [List.take_length] at this
            rw [HTG.out]; omega
          · have hle1 : ¬ (nn : Int) ≤ 3000 := by omega
            have hle0 : decide ((nn : Int) ≤ 3000) = false := by simpa using hle1
            go_wp2
            go_ret
            exact ⟨false, rfl, (fun h => by cases h), HF2.out.2⟩
end Go.Proofs.YthdfedfholmbmaaGreatDoor

namespace Go.Proofs.YthdfedfholmbmaaGreatDoor
open Go.RowKit
theorem eql_bytesS2 (a b : List UInt8) (W : World) : (binOp .eql 9 (.string (strB a)) (.string (strB b))).run Tryz.prog W = .ok (.bool (decide (a = b))) W := by
  have e : (strB a = strB b) ↔ a = b := strB_inj
  by_cases h : a = b
  · subst h; simp [go_sem]
  · rw [decide_eq_false h]
    simp [go_sem, strB_toList, h]
theorem all2_of {α β : Type} {f : α → β → Bool} : ∀ {l : List α} {m : List β}, l.length = m.length → (∀ i (h1 : i < l.length) (h2 : i < m.length), f l[i] m[i] = true) → all2 f l m = true
  | [], [], _, _ => rfl
  | [], _ :: _, h, _ => by simp at h
  | _ :: _, [], h, _ => by simp at h
  | a :: x, b :: y, h, g => by
    rw [all2, Bool.and_eq_true]
    exact ⟨g 0 (by simp) (by simp), all2_of (by simpa using h) fun i h1 h2 => g (i + 1) (by simpa using h1) (by simpa using h2)⟩
theorem all2_no {α β : Type} {f : α → β → Bool} : ∀ {l : List α} {m : List β} {j : Nat} (h1 : j < l.length) (h2 : j < m.length), f l[j] m[j] = false → all2 f l m = false
  | [], _, j, h1, _, _ => by simp at h1
  | _ :: _, [], j, _, h2, _ => by simp at h2
  | a :: x, b :: y, 0, _, _, h => by rw [all2, show f a b = false from h]; rfl
  | a :: x, b :: y, j + 1, h1, h2, h => by rw [all2, all2_no (j := j) (by simpa using h1) (by simpa using h2) h, Bool.and_false]
theorem all2_ne {α β : Type} {f : α → β → Bool} {l : List α} {m : List β} (h : l.length ≠ m.length) : all2 f l m = false := by
  cases e : all2 f l m with
  | false => rfl
  | true => exact absurd (all2_len e) h
theorem eqfP_any {w : World} {p p2 : Option Addr} {c c2 : Nat} {l m} (h : GRd PRd 7 w p c l) (h2 : GRd PRd 7 w p2 c2 m)
    (hone : ∀ j (h1 : j < l.length) (h2 : j < m.length) W x y, Below w.heap.size w W → PRd W l[j] x → PRd W m[j] y → Calls Tryz.prog 156 #[.agg x, .agg y] W fun e w' => e = .returned (.bool (sameP l[j] m[j])) ∧ Below W.heap.size W w') :
    Calls Tryz.prog 155 #[.slice p l.length c, .slice p2 m.length c2, .func (.func 156) #[] #[]] w fun e w' => e = .returned (.bool (all2 sameP l m)) ∧ Below w.heap.size w w' := by
  have z1 : (l.length : Int) ≤ 140737488355328 := by have := h.1.2.1; omega
  have z2 : (m.length : Int) ≤ 140737488355328 := by have := h2.1.2.1; omega
  have H := Lib.hid h
  have H2 := Lib.hid h2
  have HO := Lib.hid hone
  clear h h2 hone
  by_cases hlen : l.length = m.length
  · rw [hlen]
    rw [hlen] at z1
    have HLEN := Lib.hid hlen
    clear hlen
    go_enter Tryz.func155, Tryz.ntmps155
    go_wp2
    go_loopw [17] (fun i W => ∃ j : Nat, j ≤ m.length ∧ i = .int .i64 (j : Int) ∧ Hid ((∀ i (h1 : i < l.length) (h2 : i < m.length), i < j → sameP l[i] m[i] = true) ∧ Below w.heap.size w W)) (fun i _ => m.length - (intOf i).toNat)
    case atStart => exact ⟨0, Nat.zero_le _, rfl, Lib.hid ⟨fun i _ _ h => by omega, Below.refl _ _⟩⟩
    case round =>
      obtain ⟨j, hj, rfl, HI⟩ := hrel
      by_cases hlt : j < m.length
      · have hlt1 : j + 1 ≤ m.length := hlt
        have hltl : j < l.length := by rw [HLEN.out]; exact hlt
        obtain ⟨b, of, cs, rfl, hs, hc, hv⟩ := H.out.get hltl
        obtain ⟨b2, of2, ds, rfl, hs2, hc2, hv2⟩ := H2.out.get hlt
        have hb := below_new (w := wr) (.cells cs 136)
        have hb2 := below_new (w := wr.alloc (.cells cs 136)) (.cells ds 136)
        have hbb : Below w.heap.size w (wr.alloc (.cells cs 136)) := below_trans HI.out.2 hb
        have hbc : Below w.heap.size w ((wr.alloc (.cells cs 136)).alloc (.cells ds 136)) := below_trans hbb hb2
        have hx8 := belowBlk hb2 (by simp) (heap_alloc_new wr (.cells cs 136))
        have hx9 := heap_alloc_new (wr.alloc (.cells cs 136)) (.cells ds 136)
        have HL1 := Lib.hid (StT.load st_prop hs (fun i u hu => belowCell HI.out.2 (ltOf (hc i u hu)) (hc i u hu)) (W := wr))
        have HS1 := Lib.hid (StT.fresh st_prop hs (ef_prop.ones hv) (W := wr))
        have HL2 := Lib.hid (StT.load st_prop hs2 (fun i u hu => belowCell hbb (ltOf (hc2 i u hu)) (hc2 i u hu)) (W := wr.alloc (.cells cs 136)))
        have hs22 := StT.fresh st_prop hs2 (ef_prop.ones hv2) (W := wr.alloc (.cells cs 136))
        have hl3 := StT.get st_prop hs hx8
        have hl4 := StT.get st_prop hs2 hx9
        have hcall := HO.out j hltl hlt _ _ _ hbc (hv.below hbc) (hv2.below hbc)
        simp only [World.size_alloc] at hs22 hl3 hl4
        have hno := all2_no (f := sameP) hltl hlt
        have hye : sameP l[j] m[j] = true → ∀ i (h1 : i < l.length) (h2 : i < m.length), i < j + 1 → sameP l[i] m[i] = true := fun he i h1 h2 h3 => by
          rcases Nat.lt_or_ge i j with h4 | h4
          · exact HI.out.1 i h1 h2 h4
          · have : i = j := by omega
            subst this; exact he
        generalize sameP l[j] m[j] = r at *
        have HS2 := Lib.hid hs22
        have HL3 := Lib.hid hl3
        have HL4 := Lib.hid hl4
        have HC := Lib.hid hcall
        have HX := Lib.hid (And.intro hno (And.intro hye hbc))
        clear hb hb2 hbb hbc hx8 hx9 hs22 hl3 hl4 hcall hno hye hs hc hv hs2 hc2 hv2
        cases r
        all_goals
          go_wp2_with (first
            | ((with_reducible apply op_load); exact HL1.out; exact rfl; clear HL1)
            | ((with_reducible apply op_store); exact HS1.out _ rfl; exact rfl; exact rfl; clear HS1)
            | ((with_reducible apply op_load); exact HL2.out; exact rfl; clear HL2)
            | ((with_reducible apply op_store); exact HS2.out _ rfl; exact rfl; exact rfl; clear HS2)
            | ((with_reducible apply op_load); exact HL3.out; exact rfl; clear HL3)
            | ((with_reducible apply op_load); exact HL4.out; exact rfl; clear HL4)
            | (go_at_call 156; refine HC.out.mono ?_; rintro e W2 ⟨rfl, hbw⟩; have HF := Lib.hid (below_trans HX.out.2.2 hbw); clear hbw HC))
        · go_ret
          exact ⟨by rw [HX.out.1 (by simp)]; rfl, HF.out⟩
        · go_roundw
          case rel => exact ⟨j + 1, hlt1, by go_num, Lib.hid ⟨HX.out.2.1 (by simp), HF.out⟩⟩
          case measure => simp [intOf]; omega
      · obtain rfl : j = m.length := by omega
        have HF := Lib.hid (And.intro (all2_of (f := sameP) HLEN.out fun i h1 h2 => HI.out.1 i h1 h2 h2) HI.out.2)
        clear HI
        go_wp2
        go_ret
        exact ⟨by rw [HF.out.1]; rfl, HF.out.2⟩
  · have hli : ¬ (l.length : Int) = (m.length : Int) := by omega
    have hlb : ((l.length : Int) != (m.length : Int)) = true := by rw [bne_iff_ne]; exact hli
    clear hli
    go_enter Tryz.func155, Tryz.ntmps155
    go_wp2
    go_ret
    exact ⟨by rw [all2_ne hlen]; rfl, Below.refl _ _⟩
theorem sameP_any {w : World} (hE : Env w) {a b : PropD} {x y : Array Value} (ha : PRd w a x) (hb : PRd w b y) (ht : totP a ≤ 1000000) (ht2 : totP b ≤ 1000000) : Calls Tryz.prog 156 #[.agg x, .agg y] w fun e w' => e = .returned (.bool (sameP a b)) ∧ Below w.heap.size w w' := by
  have hxs := ef_prop.size ha
  have hys := ef_prop.size hb
  have hb1 := below_new (w := w) (.cells x 136)
  have hb2 := below_new (w := w.alloc (.cells x 136)) (.cells y 136)
  have hbc : Below w.heap.size w ((w.alloc (.cells x 136)).alloc (.cells y 136)) := below_trans hb1 hb2
  have hx8 := belowBlk hb2 (by simp) (heap_alloc_new w (.cells x 136))
  have hx9 := heap_alloc_new (w.alloc (.cells x 136)) (.cells y 136)
  obtain ⟨xv, ex, hkx, hvx⟩ := ha
  obtain ⟨yv, ey, hky, hvy⟩ := hb
  have k0 : x[0]? = some (.string (strB a.key)) := by rw [ex, Array.getElem?_append_left (by simp)]; rfl
  have l0 : y[0]? = some (.string (strB b.key)) := by rw [ey, Array.getElem?_append_left (by simp)]; rfl
  have k1 : ∀ (i : Nat) (u : Value), xv[i]? = some u → x[1 + i]? = some u := fun i u hu => by rw [ex, Array.getElem?_append_right (by simp)]; simpa using hu
  have l1 : ∀ (i : Nat) (u : Value), yv[i]? = some u → y[1 + i]? = some u := fun i u hu => by rw [ey, Array.getElem?_append_right (by simp)]; simpa using hu
  have p0 := cellOf (o := 0) hx8 k0
  have q0 := cellOf (o := 0) hx9 l0
  have hlx := StT.load (P := Tryz.prog) (g := w.heap.size) (o := 1) st_val (ef_val.size hvx) fun i u hu => cellOf (o := 1 + i) hx8 (k1 i u hu)
  have hly := StT.load (P := Tryz.prog) (g := (w.alloc (.cells x 136)).heap.size) (o := 1) st_val (ef_val.size hvy) fun i u hu => cellOf (o := 1 + i) hx9 (l1 i u hu)
  unfold totP at ht ht2
  have hcall := same_any (hE.b hbc) (hvx.below hbc) (hvy.below hbc) (by omega)
  simp only [World.size_alloc] at q0 hly
  have hes := eql_bytesS2 a.key b.key
  have hsp : sameP a b = (decide (a.key = b.key) && (okV a.val && okV b.val && decide (cmpV a.val b.val = 0))) := rfl
  rw [hsp]
  have HLX := Lib.hid hlx
  have HLY := Lib.hid hly
  have HC := Lib.hid hcall
  have HB := Lib.hid hbc
  clear hsp ht ht2 hE hb1 hb2 hbc hx8 hx9 hlx hly hcall ex ey hvx hvy hkx hky k0 k1 l0 l1 hxs hys
  generalize strB a.key = s1 at *
  generalize strB b.key = s2 at *
  generalize (okV a.val && okV b.val && decide (cmpV a.val b.val = 0)) = r at *
  cases hk : decide (a.key = b.key)
  all_goals
    rw [hk] at hes
    go_enter Tryz.func156, Tryz.ntmps156
    go_wp2_with (first
      | (refine wpList_run rfl (exec_bins rfl rfl rfl (hes _)) ?_)
      | ((with_reducible apply op_loadH); exact HLX.out; exact rfl; exact rfl)
      | ((with_reducible apply op_loadH); exact HLY.out; exact rfl; exact rfl)
      | (go_at_call 157; refine HC.out.mono ?_; rintro e W2 ⟨rfl, hbw⟩; have HF := Lib.hid (below_trans HB.out hbw); clear hbw HC))
    go_ret
    first
      | exact ⟨by simp, HF.out⟩
      | exact ⟨by simp, HB.out⟩
theorem sameProps_any {w : World} (hE : Env w) {p p2 : Option Addr} {c c2 : Nat} {l m : List PropD} (h : GRd PRd 7 w p c l) (h2 : GRd PRd 7 w p2 c2 m) (ht : totPs l ≤ 1000000) (ht2 : totPs m ≤ 1000000) : Calls Tryz.prog 131 #[.slice p l.length c, .slice p2 m.length c2] w fun e w' => e = .returned (.bool (all2 sameP l m)) ∧ Below w.heap.size w w' := by
  have HC := Lib.hid (eqfP_any h h2 (fun j h1 h3 W x y hB hx hy => sameP_any (hE.b hB) hx hy (Nat.le_trans (mem_sum totP (List.getElem_mem h1)) ht) (Nat.le_trans (mem_sum totP (List.getElem_mem h3)) ht2)))
  clear hE h h2 ht ht2
  generalize all2 sameP l m = r at *
  go_enter Tryz.func131, Tryz.ntmps131
  go_wp2_with (go_at_call 155; refine HC.out.mono ?_; rintro e W2 ⟨rfl, hbw⟩; have HF := Lib.hid hbw; clear hbw HC)
  go_ret
  exact ⟨rfl, HF.out⟩
theorem sameN_any {w : World} (hE : Env w) {a b : NodeD} {x y : Array Value} (ha : NRd w a x) (hb : NRd w b y) (ht : totN a ≤ 1000000) (ht2 : totN b ≤ 1000000) : Calls Tryz.prog 85 #[.agg x, .agg y] w fun e w' => e = .returned (.bool (sameN a b)) ∧ Below w.heap.size w w' := by
  obtain ⟨pl, cl, pp, cp, rfl, hl, hp⟩ := ha
  obtain ⟨ql, dl, qp, dp, rfl, hl2, hp2⟩ := hb
  have hb1 := below_new (w := w) (.cells #[.int .i64 a.id, .slice pl a.labels.length cl, .slice pp a.props.length cp] 70)
  have hb2 := below_new (w := w.alloc (.cells #[.int .i64 a.id, .slice pl a.labels.length cl, .slice pp a.props.length cp] 70)) (.cells #[.int .i64 b.id, .slice ql b.labels.length dl, .slice qp b.props.length dp] 70)
  have hbc : Below w.heap.size w ((w.alloc (.cells #[.int .i64 a.id, .slice pl a.labels.length cl, .slice pp a.props.length cp] 70)).alloc (.cells #[.int .i64 b.id, .slice ql b.labels.length dl, .slice qp b.props.length dp] 70)) := below_trans hb1 hb2
  have hx8 := belowBlk hb2 (by simp) (heap_alloc_new w (.cells #[.int .i64 a.id, .slice pl a.labels.length cl, .slice pp a.props.length cp] 70))
  have hx9 := heap_alloc_new (w.alloc (.cells #[.int .i64 a.id, .slice pl a.labels.length cl, .slice pp a.props.length cp] 70)) (.cells #[.int .i64 b.id, .slice ql b.labels.length dl, .slice qp b.props.length dp] 70)
  unfold totN at ht ht2
  have hke := fun W (g : Below w.heap.size w W) => eqkeys_any (hl.below g) (hl2.below g)
  have hpe := fun W (g : Below w.heap.size w W) => sameProps_any (hE.b g) (hp.below (fun h => h.below g) g) (hp2.below (fun h => h.below g) g) (by omega) (by omega)
  have hsp : sameN a b = (decide (a.id = b.id) && decide (a.labels = b.labels) && all2 sameP a.props b.props) := rfl
  rw [hsp]
  have HKE := Lib.hid hke
  have HPE := Lib.hid hpe
  have hxx := fun W (g : Below ((w.alloc (.cells #[.int .i64 a.id, .slice pl a.labels.length cl, .slice pp a.props.length cp] 70)).alloc (.cells #[.int .i64 b.id, .slice ql b.labels.length dl, .slice qp b.props.length dp] 70)).heap.size ((w.alloc (.cells #[.int .i64 a.id, .slice pl a.labels.length cl, .slice pp a.props.length cp] 70)).alloc (.cells #[.int .i64 b.id, .slice ql b.labels.length dl, .slice qp b.props.length dp] 70)) W) => And.intro (belowBlk g (by simp; omega) hx8) (show W.heap[w.heap.size + 1]? = some (.cells #[.int .i64 b.id, .slice ql b.labels.length dl, .slice qp b.props.length dp] 70 (0, 0)) from by have h := belowBlk g (by simp) hx9; simp only [World.size_alloc] at h; exact h)
  have p0 := cellOf (o := 0) hx8 rfl
  have q0 := cellOf (o := 0) hx9 rfl
  have p1 := cellOf (o := 1) hx8 rfl
  have q1 := cellOf (o := 1) hx9 rfl
  have p2 := cellOf (o := 2) hx8 rfl
  have q2 := cellOf (o := 2) hx9 rfl
  simp only [World.size_alloc] at q0 q1 q2
  have HX := Lib.hid hxx
  have HB := Lib.hid hbc
  clear hsp ht ht2 hE hb1 hb2 hbc hx8 hx9 hke hpe hxx hl hl2 hp hp2
  generalize decide (a.labels = b.labels) = r1 at *
  generalize all2 sameP a.props b.props = r2 at *
  cases hk : decide (a.id = b.id) <;> cases r1
  all_goals
    have hki : ((a.id == b.id) : Bool) = decide (a.id = b.id) := rfl
    rw [hk] at hki
    go_enter Tryz.func85, Tryz.ntmps85
    go_wp2_with (first
      | (go_at_call 130; refine (HKE.out _ HB.out).mono ?_; rintro e W2 ⟨rfl, hbw⟩; have HF1 := Lib.hid (And.intro hbw (below_trans HB.out hbw)); have p21 := cellOf (o := 2) (HX.out _ hbw).1 rfl; have q21 := cellOf (o := 2) (HX.out _ hbw).2 rfl; clear hbw HKE)
      | (go_at_call 131; refine (HPE.out _ HF1.out.2).mono ?_; rintro e W3 ⟨rfl, hbw⟩; have HF := Lib.hid (below_trans HF1.out.2 hbw); clear hbw HPE))
    go_ret
    first
      | exact ⟨by simp, HF.out⟩
      | exact ⟨by simp, HF1.out.2⟩
      | exact ⟨by simp, HB.out⟩
theorem sameR_any {w : World} (hE : Env w) {a b : RelD} {x y : Array Value} (ha : RRd w a x) (hb : RRd w b y) (ht : totR a ≤ 1000000) (ht2 : totR b ≤ 1000000) : Calls Tryz.prog 87 #[.agg x, .agg y] w fun e w' => e = .returned (.bool (sameR a b)) ∧ Below w.heap.size w w' := by
  obtain ⟨pp, cp, rfl, hty, hp⟩ := ha
  obtain ⟨qp, dp, rfl, hty2, hp2⟩ := hb
  have hb1 := below_new (w := w) (.cells #[.int .i64 a.id, .int .i64 a.src, .int .i64 a.dst, .string (strB a.type), .slice pp a.props.length cp] 72)
  have hb2 := below_new (w := w.alloc (.cells #[.int .i64 a.id, .int .i64 a.src, .int .i64 a.dst, .string (strB a.type), .slice pp a.props.length cp] 72)) (.cells #[.int .i64 b.id, .int .i64 b.src, .int .i64 b.dst, .string (strB b.type), .slice qp b.props.length dp] 72)
  have hbc : Below w.heap.size w ((w.alloc (.cells #[.int .i64 a.id, .int .i64 a.src, .int .i64 a.dst, .string (strB a.type), .slice pp a.props.length cp] 72)).alloc (.cells #[.int .i64 b.id, .int .i64 b.src, .int .i64 b.dst, .string (strB b.type), .slice qp b.props.length dp] 72)) := below_trans hb1 hb2
  have hx8 := belowBlk hb2 (by simp) (heap_alloc_new w (.cells #[.int .i64 a.id, .int .i64 a.src, .int .i64 a.dst, .string (strB a.type), .slice pp a.props.length cp] 72))
  have hx9 := heap_alloc_new (w.alloc (.cells #[.int .i64 a.id, .int .i64 a.src, .int .i64 a.dst, .string (strB a.type), .slice pp a.props.length cp] 72)) (.cells #[.int .i64 b.id, .int .i64 b.src, .int .i64 b.dst, .string (strB b.type), .slice qp b.props.length dp] 72)
  unfold totR at ht ht2
  have hpe := sameProps_any (hE.b hbc) (hp.below (fun h => h.below hbc) hbc) (hp2.below (fun h => h.below hbc) hbc) (by omega) (by omega)
  have hes : ((strB a.type).toList == (strB b.type).toList) = decide (a.type = b.type) := by rw [strB_toList, strB_toList, Bool.eq_iff_iff]; simp
  have hsp : sameR a b = (decide (a.id = b.id) && decide (a.src = b.src) && decide (a.dst = b.dst) && decide (a.type = b.type) && all2 sameP a.props b.props) := rfl
  rw [hsp]
  have HPE := Lib.hid hpe
  have p0 := cellOf (o := 0) hx8 rfl
  have q0 := cellOf (o := 0) hx9 rfl
  have p1 := cellOf (o := 1) hx8 rfl
  have q1 := cellOf (o := 1) hx9 rfl
  have p2 := cellOf (o := 2) hx8 rfl
  have q2 := cellOf (o := 2) hx9 rfl
  have p3 := cellOf (o := 3) hx8 rfl
  have q3 := cellOf (o := 3) hx9 rfl
  have p4 := cellOf (o := 4) hx8 rfl
  have q4 := cellOf (o := 4) hx9 rfl
  simp only [World.size_alloc] at q0 q1 q2 q3 q4
  have HB := Lib.hid hbc
  clear hsp ht ht2 hE hb1 hb2 hbc hx8 hx9 hpe hp hp2 hty hty2
  generalize all2 sameP a.props b.props = r2 at *
  generalize strB a.type = s1 at *
  generalize strB b.type = s2 at *
  cases hk : decide (a.id = b.id) <;> cases hk1 : decide (a.src = b.src) <;> cases hk2 : decide (a.dst = b.dst) <;> cases hk3 : decide (a.type = b.type)
  all_goals
    have hki : ((a.id == b.id) : Bool) = decide (a.id = b.id) := rfl
    have hki1 : ((a.src == b.src) : Bool) = decide (a.src = b.src) := rfl
    have hki2 : ((a.dst == b.dst) : Bool) = decide (a.dst = b.dst) := rfl
    rw [hk] at hki
    rw [hk1] at hki1
    rw [hk2] at hki2
    rw [hk3] at hes
    go_enter Tryz.func87, Tryz.ntmps87
    go_wp2_with (first
      | (go_at_call 131; refine HPE.out.mono ?_; rintro e W3 ⟨rfl, hbw⟩; have HF := Lib.hid (below_trans HB.out hbw); clear hbw HPE))
    go_ret
    first
      | exact ⟨by simp, HF.out⟩
      | exact ⟨by simp, HB.out⟩
theorem eqfN_any {w : World} {p p2 : Option Addr} {c c2 : Nat} {l m} (h : GRd NRd 3 w p c l) (h2 : GRd NRd 3 w p2 c2 m)
    (hone : ∀ j (h1 : j < l.length) (h2 : j < m.length) W x y, Below w.heap.size w W → NRd W l[j] x → NRd W m[j] y → Calls Tryz.prog 85 #[.agg x, .agg y] W fun e w' => e = .returned (.bool (sameN l[j] m[j])) ∧ Below W.heap.size W w') :
    Calls Tryz.prog 84 #[.slice p l.length c, .slice p2 m.length c2, .func (.func 85) #[] #[]] w fun e w' => e = .returned (.bool (all2 sameN l m)) ∧ Below w.heap.size w w' := by
  have z1 : (l.length : Int) ≤ 140737488355328 := by have := h.1.2.1; omega
  have z2 : (m.length : Int) ≤ 140737488355328 := by have := h2.1.2.1; omega
  have H := Lib.hid h
  have H2 := Lib.hid h2
  have HO := Lib.hid hone
  clear h h2 hone
  by_cases hlen : l.length = m.length
  · rw [hlen]
    rw [hlen] at z1
    have HLEN := Lib.hid hlen
    clear hlen
    go_enter Tryz.func84, Tryz.ntmps84
    go_wp2
    go_loopw [17] (fun i W => ∃ j : Nat, j ≤ m.length ∧ i = .int .i64 (j : Int) ∧ Hid ((∀ i (h1 : i < l.length) (h2 : i < m.length), i < j → sameN l[i] m[i] = true) ∧ Below w.heap.size w W)) (fun i _ => m.length - (intOf i).toNat)
    case atStart => exact ⟨0, Nat.zero_le _, rfl, Lib.hid ⟨fun i _ _ h => by omega, Below.refl _ _⟩⟩
    case round =>
      obtain ⟨j, hj, rfl, HI⟩ := hrel
      by_cases hlt : j < m.length
      · have hlt1 : j + 1 ≤ m.length := hlt
        have hltl : j < l.length := by rw [HLEN.out]; exact hlt
        obtain ⟨b, of, cs, rfl, hs, hc, hv⟩ := H.out.get hltl
        obtain ⟨b2, of2, ds, rfl, hs2, hc2, hv2⟩ := H2.out.get hlt
        have hb := below_new (w := wr) (.cells cs 70)
        have hb2 := below_new (w := wr.alloc (.cells cs 70)) (.cells ds 70)
        have hbb : Below w.heap.size w (wr.alloc (.cells cs 70)) := below_trans HI.out.2 hb
        have hbc : Below w.heap.size w ((wr.alloc (.cells cs 70)).alloc (.cells ds 70)) := below_trans hbb hb2
        have hx8 := belowBlk hb2 (by simp) (heap_alloc_new wr (.cells cs 70))
        have hx9 := heap_alloc_new (wr.alloc (.cells cs 70)) (.cells ds 70)
        have HL1 := Lib.hid (StT.load st_node hs (fun i u hu => belowCell HI.out.2 (ltOf (hc i u hu)) (hc i u hu)) (W := wr))
        have HS1 := Lib.hid (StT.fresh st_node hs (ef_node.ones hv) (W := wr))
        have HL2 := Lib.hid (StT.load st_node hs2 (fun i u hu => belowCell hbb (ltOf (hc2 i u hu)) (hc2 i u hu)) (W := wr.alloc (.cells cs 70)))
        have hs22 := StT.fresh st_node hs2 (ef_node.ones hv2) (W := wr.alloc (.cells cs 70))
        have hl3 := StT.get st_node hs hx8
        have hl4 := StT.get st_node hs2 hx9
        have hcall := HO.out j hltl hlt _ _ _ hbc (hv.below hbc) (hv2.below hbc)
        simp only [World.size_alloc] at hs22 hl3 hl4
        have hno := all2_no (f := sameN) hltl hlt
        have hye : sameN l[j] m[j] = true → ∀ i (h1 : i < l.length) (h2 : i < m.length), i < j + 1 → sameN l[i] m[i] = true := fun he i h1 h2 h3 => by
          rcases Nat.lt_or_ge i j with h4 | h4
          · exact HI.out.1 i h1 h2 h4
          · have : i = j := by omega
            subst this; exact he
        generalize sameN l[j] m[j] = r at *
        have HS2 := Lib.hid hs22
        have HL3 := Lib.hid hl3
        have HL4 := Lib.hid hl4
        have HC := Lib.hid hcall
        have HX := Lib.hid (And.intro hno (And.intro hye hbc))
        clear hb hb2 hbb hbc hx8 hx9 hs22 hl3 hl4 hcall hno hye hs hc hv hs2 hc2 hv2
        cases r
        all_goals
          go_wp2_with (first
            | ((with_reducible apply op_load); exact HL1.out; exact rfl; clear HL1)
            | ((with_reducible apply op_store); exact HS1.out _ rfl; exact rfl; exact rfl; clear HS1)
            | ((with_reducible apply op_load); exact HL2.out; exact rfl; clear HL2)
            | ((with_reducible apply op_store); exact HS2.out _ rfl; exact rfl; exact rfl; clear HS2)
            | ((with_reducible apply op_load); exact HL3.out; exact rfl; clear HL3)
            | ((with_reducible apply op_load); exact HL4.out; exact rfl; clear HL4)
            | (go_at_call 85; refine HC.out.mono ?_; rintro e W2 ⟨rfl, hbw⟩; have HF := Lib.hid (below_trans HX.out.2.2 hbw); clear hbw HC))
        · go_ret
          exact ⟨by rw [HX.out.1 (by simp)]; rfl, HF.out⟩
        · go_roundw
          case rel => exact ⟨j + 1, hlt1, by go_num, Lib.hid ⟨HX.out.2.1 (by simp), HF.out⟩⟩
          case measure => simp [intOf]; omega
      · obtain rfl : j = m.length := by omega
        have HF := Lib.hid (And.intro (all2_of (f := sameN) HLEN.out fun i h1 h2 => HI.out.1 i h1 h2 h2) HI.out.2)
        clear HI
        go_wp2
        go_ret
        exact ⟨by rw [HF.out.1]; rfl, HF.out.2⟩
  · have hli : ¬ (l.length : Int) = (m.length : Int) := by omega
    have hlb : ((l.length : Int) != (m.length : Int)) = true := by rw [bne_iff_ne]; exact hli
    clear hli
    go_enter Tryz.func84, Tryz.ntmps84
    go_wp2
    go_ret
    exact ⟨by rw [all2_ne hlen]; rfl, Below.refl _ _⟩
theorem eqfR_any {w : World} {p p2 : Option Addr} {c c2 : Nat} {l m} (h : GRd RRd 5 w p c l) (h2 : GRd RRd 5 w p2 c2 m)
    (hone : ∀ j (h1 : j < l.length) (h2 : j < m.length) W x y, Below w.heap.size w W → RRd W l[j] x → RRd W m[j] y → Calls Tryz.prog 87 #[.agg x, .agg y] W fun e w' => e = .returned (.bool (sameR l[j] m[j])) ∧ Below W.heap.size W w') :
    Calls Tryz.prog 86 #[.slice p l.length c, .slice p2 m.length c2, .func (.func 87) #[] #[]] w fun e w' => e = .returned (.bool (all2 sameR l m)) ∧ Below w.heap.size w w' := by
  have z1 : (l.length : Int) ≤ 140737488355328 := by have := h.1.2.1; omega
  have z2 : (m.length : Int) ≤ 140737488355328 := by have := h2.1.2.1; omega
  have H := Lib.hid h
  have H2 := Lib.hid h2
  have HO := Lib.hid hone
  clear h h2 hone
  by_cases hlen : l.length = m.length
  · rw [hlen]
    rw [hlen] at z1
    have HLEN := Lib.hid hlen
    clear hlen
    go_enter Tryz.func86, Tryz.ntmps86
    go_wp2
    go_loopw [17] (fun i W => ∃ j : Nat, j ≤ m.length ∧ i = .int .i64 (j : Int) ∧ Hid ((∀ i (h1 : i < l.length) (h2 : i < m.length), i < j → sameR l[i] m[i] = true) ∧ Below w.heap.size w W)) (fun i _ => m.length - (intOf i).toNat)
    case atStart => exact ⟨0, Nat.zero_le _, rfl, Lib.hid ⟨fun i _ _ h => by omega, Below.refl _ _⟩⟩
    case round =>
      obtain ⟨j, hj, rfl, HI⟩ := hrel
      by_cases hlt : j < m.length
      · have hlt1 : j + 1 ≤ m.length := hlt
        have hltl : j < l.length := by rw [HLEN.out]; exact hlt
        obtain ⟨b, of, cs, rfl, hs, hc, hv⟩ := H.out.get hltl
        obtain ⟨b2, of2, ds, rfl, hs2, hc2, hv2⟩ := H2.out.get hlt
        have hb := below_new (w := wr) (.cells cs 72)
        have hb2 := below_new (w := wr.alloc (.cells cs 72)) (.cells ds 72)
        have hbb : Below w.heap.size w (wr.alloc (.cells cs 72)) := below_trans HI.out.2 hb
        have hbc : Below w.heap.size w ((wr.alloc (.cells cs 72)).alloc (.cells ds 72)) := below_trans hbb hb2
        have hx8 := belowBlk hb2 (by simp) (heap_alloc_new wr (.cells cs 72))
        have hx9 := heap_alloc_new (wr.alloc (.cells cs 72)) (.cells ds 72)
        have HL1 := Lib.hid (StT.load st_rel hs (fun i u hu => belowCell HI.out.2 (ltOf (hc i u hu)) (hc i u hu)) (W := wr))
        have HS1 := Lib.hid (StT.fresh st_rel hs (ef_rel.ones hv) (W := wr))
        have HL2 := Lib.hid (StT.load st_rel hs2 (fun i u hu => belowCell hbb (ltOf (hc2 i u hu)) (hc2 i u hu)) (W := wr.alloc (.cells cs 72)))
        have hs22 := StT.fresh st_rel hs2 (ef_rel.ones hv2) (W := wr.alloc (.cells cs 72))
        have hl3 := StT.get st_rel hs hx8
        have hl4 := StT.get st_rel hs2 hx9
        have hcall := HO.out j hltl hlt _ _ _ hbc (hv.below hbc) (hv2.below hbc)
        simp only [World.size_alloc] at hs22 hl3 hl4
        have hno := all2_no (f := sameR) hltl hlt
        have hye : sameR l[j] m[j] = true → ∀ i (h1 : i < l.length) (h2 : i < m.length), i < j + 1 → sameR l[i] m[i] = true := fun he i h1 h2 h3 => by
          rcases Nat.lt_or_ge i j with h4 | h4
          · exact HI.out.1 i h1 h2 h4
          · have : i = j := by omega
            subst this; exact he
        generalize sameR l[j] m[j] = r at *
        have HS2 := Lib.hid hs22
        have HL3 := Lib.hid hl3
        have HL4 := Lib.hid hl4
        have HC := Lib.hid hcall
        have HX := Lib.hid (And.intro hno (And.intro hye hbc))
        clear hb hb2 hbb hbc hx8 hx9 hs22 hl3 hl4 hcall hno hye hs hc hv hs2 hc2 hv2
        cases r
        all_goals
          go_wp2_with (first
            | ((with_reducible apply op_load); exact HL1.out; exact rfl; clear HL1)
            | ((with_reducible apply op_store); exact HS1.out _ rfl; exact rfl; exact rfl; clear HS1)
            | ((with_reducible apply op_load); exact HL2.out; exact rfl; clear HL2)
            | ((with_reducible apply op_store); exact HS2.out _ rfl; exact rfl; exact rfl; clear HS2)
            | ((with_reducible apply op_load); exact HL3.out; exact rfl; clear HL3)
            | ((with_reducible apply op_load); exact HL4.out; exact rfl; clear HL4)
            | (go_at_call 87; refine HC.out.mono ?_; rintro e W2 ⟨rfl, hbw⟩; have HF := Lib.hid (below_trans HX.out.2.2 hbw); clear hbw HC))
        · go_ret
          exact ⟨by rw [HX.out.1 (by simp)]; rfl, HF.out⟩
        · go_roundw
          case rel => exact ⟨j + 1, hlt1, by go_num, Lib.hid ⟨HX.out.2.1 (by simp), HF.out⟩⟩
          case measure => simp [intOf]; omega
      · obtain rfl : j = m.length := by omega
        have HF := Lib.hid (And.intro (all2_of (f := sameR) HLEN.out fun i h1 h2 => HI.out.1 i h1 h2 h2) HI.out.2)
        clear HI
        go_wp2
        go_ret
        exact ⟨by rw [HF.out.1]; rfl, HF.out.2⟩
  · have hli : ¬ (l.length : Int) = (m.length : Int) := by omega
    have hlb : ((l.length : Int) != (m.length : Int)) = true := by rw [bne_iff_ne]; exact hli
    clear hli
    go_enter Tryz.func86, Tryz.ntmps86
    go_wp2
    go_ret
    exact ⟨by rw [all2_ne hlen]; rfl, Below.refl _ _⟩
theorem sameG_any {w : World} (hE : Env w) {a b : GraphD} {x y : Array Value} (ha : GrRd w a x) (hb : GrRd w b y) (ht : totG a ≤ 1000000) (ht2 : totG b ≤ 1000000) : Calls Tryz.prog 33 #[.agg x, .agg y] w fun e w' => e = .returned (.bool (sameG a b)) ∧ Below w.heap.size w w' := by
  obtain ⟨pn, cn, pr, cr, rfl, hn, hr⟩ := ha
  obtain ⟨qn, dn, qr, dr, rfl, hn2, hr2⟩ := hb
  have hb1 := below_new (w := w) (.cells #[.slice pn a.nodes.length cn, .slice pr a.rels.length cr, .int .i64 a.nextNode, .int .i64 a.nextRel] 25)
  have hb2 := below_new (w := w.alloc (.cells #[.slice pn a.nodes.length cn, .slice pr a.rels.length cr, .int .i64 a.nextNode, .int .i64 a.nextRel] 25)) (.cells #[.slice qn b.nodes.length dn, .slice qr b.rels.length dr, .int .i64 b.nextNode, .int .i64 b.nextRel] 25)
  have hbc : Below w.heap.size w ((w.alloc (.cells #[.slice pn a.nodes.length cn, .slice pr a.rels.length cr, .int .i64 a.nextNode, .int .i64 a.nextRel] 25)).alloc (.cells #[.slice qn b.nodes.length dn, .slice qr b.rels.length dr, .int .i64 b.nextNode, .int .i64 b.nextRel] 25)) := below_trans hb1 hb2
  have hx8 := belowBlk hb2 (by simp) (heap_alloc_new w (.cells #[.slice pn a.nodes.length cn, .slice pr a.rels.length cr, .int .i64 a.nextNode, .int .i64 a.nextRel] 25))
  have hx9 := heap_alloc_new (w.alloc (.cells #[.slice pn a.nodes.length cn, .slice pr a.rels.length cr, .int .i64 a.nextNode, .int .i64 a.nextRel] 25)) (.cells #[.slice qn b.nodes.length dn, .slice qr b.rels.length dr, .int .i64 b.nextNode, .int .i64 b.nextRel] 25)
  unfold totG at ht ht2
  have hne := fun W (g : Below w.heap.size w W) => eqfN_any (hn.below (fun h => h.below g) g) (hn2.below (fun h => h.below g) g) (fun j h1 h3 W2 x y hB hx hy => sameN_any (hE.b (below_trans g hB)) hx hy (Nat.le_trans (mem_sum totN (List.getElem_mem h1)) (by omega)) (Nat.le_trans (mem_sum totN (List.getElem_mem h3)) (by omega)))
  have hre := fun W (g : Below w.heap.size w W) => eqfR_any (hr.below (fun h => h.below g) g) (hr2.below (fun h => h.below g) g) (fun j h1 h3 W2 x y hB hx hy => sameR_any (hE.b (below_trans g hB)) hx hy (Nat.le_trans (mem_sum totR (List.getElem_mem h1)) (by omega)) (Nat.le_trans (mem_sum totR (List.getElem_mem h3)) (by omega)))
  have hsp : sameG a b = (decide (a.nextNode = b.nextNode) && decide (a.nextRel = b.nextRel) && all2 sameN a.nodes b.nodes && all2 sameR a.rels b.rels) := rfl
  rw [hsp]
  have HNE := Lib.hid hne
  have HRE := Lib.hid hre
  have hxx := fun W (g : Below ((w.alloc (.cells #[.slice pn a.nodes.length cn, .slice pr a.rels.length cr, .int .i64 a.nextNode, .int .i64 a.nextRel] 25)).alloc (.cells #[.slice qn b.nodes.length dn, .slice qr b.rels.length dr, .int .i64 b.nextNode, .int .i64 b.nextRel] 25)).heap.size ((w.alloc (.cells #[.slice pn a.nodes.length cn, .slice pr a.rels.length cr, .int .i64 a.nextNode, .int .i64 a.nextRel] 25)).alloc (.cells #[.slice qn b.nodes.length dn, .slice qr b.rels.length dr, .int .i64 b.nextNode, .int .i64 b.nextRel] 25)) W) => And.intro (belowBlk g (by simp; omega) hx8) (show W.heap[w.heap.size + 1]? = some (.cells #[.slice qn b.nodes.length dn, .slice qr b.rels.length dr, .int .i64 b.nextNode, .int .i64 b.nextRel] 25 (0, 0)) from by have h := belowBlk g (by simp) hx9; simp only [World.size_alloc] at h; exact h)
  have p0 := cellOf (o := 0) hx8 rfl
  have q0 := cellOf (o := 0) hx9 rfl
  have p1 := cellOf (o := 1) hx8 rfl
  have q1 := cellOf (o := 1) hx9 rfl
  have p2 := cellOf (o := 2) hx8 rfl
  have q2 := cellOf (o := 2) hx9 rfl
  have p3 := cellOf (o := 3) hx8 rfl
  have q3 := cellOf (o := 3) hx9 rfl
  simp only [World.size_alloc] at q0 q1 q2 q3
  have HX := Lib.hid hxx
  have HB := Lib.hid hbc
  clear hsp ht ht2 hE hb1 hb2 hbc hx8 hx9 hne hre hxx hn hn2 hr hr2
  generalize all2 sameN a.nodes b.nodes = r1 at *
  generalize all2 sameR a.rels b.rels = r2 at *
  cases hk : decide (a.nextNode = b.nextNode) <;> cases hk1 : decide (a.nextRel = b.nextRel) <;> cases r1
  all_goals
    have hki : ((a.nextNode == b.nextNode) : Bool) = decide (a.nextNode = b.nextNode) := rfl
    have hki1 : ((a.nextRel == b.nextRel) : Bool) = decide (a.nextRel = b.nextRel) := rfl
    rw [hk] at hki
    rw [hk1] at hki1
    go_enter Tryz.func33, Tryz.ntmps33
    go_wp2_with (first
      | (go_at_call 84; refine (HNE.out _ HB.out).mono ?_; rintro e W2 ⟨rfl, hbw⟩; have HF1 := Lib.hid (And.intro hbw (below_trans HB.out hbw)); have p11 := cellOf (o := 1) (HX.out _ hbw).1 rfl; have q11 := cellOf (o := 1) (HX.out _ hbw).2 rfl; clear hbw HNE)
      | (go_at_call 86; refine (HRE.out _ HF1.out.2).mono ?_; rintro e W3 ⟨rfl, hbw⟩; have HF := Lib.hid (below_trans HF1.out.2 hbw); clear hbw HRE))
    go_ret
    first
      | exact ⟨by simp, HF.out⟩
      | exact ⟨by simp, HF1.out.2⟩
      | exact ⟨by simp, HB.out⟩
end Go.Proofs.YthdfedfholmbmaaGreatDoor

namespace Go.Proofs.YthdfedfholmbmaaGreatDoor
open Go.RowKit
theorem rd_len {W : World} {p : Option Addr} {n c : Nat} {l : List UInt8} (h : RdB W (.slice p n c) l) : (n : Int) ≤ 9223372036854775807 := by
  obtain ⟨a1, cap, heq, ⟨hn, hm, hz⟩, _⟩ := h
  cases heq; unfold maxLen at hm; omega
end Go.Proofs.YthdfedfholmbmaaGreatDoor

namespace Go.Proofs.YthdfedfholmbmaaGreatDoor
open Go.RowKit
theorem Out.rd {w : World} {b : List UInt8} {err : Int} {e : Ending} {W' : World} (h : Out w b err e W') : ∃ p c, e = .returned (.tuple #[.slice p b.length c, .int .i64 err]) ∧ RdB W' (.slice p b.length c) b ∧ Below w.heap.size w W' := by
  obtain ⟨o, rfl, ho, hb⟩ := h
  obtain ⟨p, c, rfl, hr⟩ := own_rdB ho
  exact ⟨p, c, rfl, hr, hb⟩
theorem readW_dec {α : Type} {d : Dec α} {ok : α → Bool} {b : List UInt8} {x : α} (h : readW d ok b = some x) : d b = some (x, []) ∧ ok x = true := by
  unfold readW at h
  split at h
  · rename_i y hd
    split at h
    · rename_i hk
      cases h
      exact ⟨hd, hk⟩
    · cases h
  · cases h
theorem readG_tot {b : List UInt8} {x : GraphD} (h : readW rdGraph okG b = some x) : totG x ≤ b.length ∧ rngG x ∧ okG x = true ∧ b = graphC x := by
  obtain ⟨h1, h2⟩ := readW_dec h
  obtain ⟨h3, h4⟩ := tot_of rt_graph df_graph ds_graph h1
  exact ⟨by simpa using h3, h4, h2, (readW_some rt_graph h).1⟩
def Lies (g : Nat) (T : TypeId) (x : Array Value) (W : World) : Prop := W.heap[g]? = some (.cells x T (0, 0))
theorem Lies.below {g : Nat} {T : TypeId} {x : Array Value} {W W' : World} (h : Lies g T x W) (b : Below W.heap.size W W') : Lies g T x W' := belowBlk b (Array.getElem?_eq_some_iff.1 h).1 h
theorem Lies.get {g : Nat} {x : Array Value} {W : World} (h : Lies g 25 x W) (hs : x.size = 4) : (loadVar 25 ⟨g, 0, none⟩).run Tryz.prog W = .ok (.agg x) W := StT.get st_graph hs h
theorem outG_len {v : GraphD} (hr : rngG v) (ht : totG v ≤ 3000) : (outG v).length ≤ 800000 := by
  unfold outG; split
  · have := graphC_len hr (by omega); omega
  · simp
theorem graphC_pos (g : GraphD) : 0 < (graphC g).length := by
  have := numB_pos g.nodes.length
  unfold graphC rowsC
  simp only [List.length_append]; omega
theorem short_graph {g : GraphD} (h : wfG g) : readW rdGraph okG ((graphC g).take ((graphC g).length - 1)) = none := by
  have hp := graphC_pos g
  refine short_none (r := (graphC g).drop ((graphC g).length - 1)) rt_graph h (fun e => ?_) (List.take_append_drop _ _).symm
  have := congrArg List.length e
  simp only [List.length_drop, List.length_nil] at this
  omega
theorem long_graph {g : GraphD} (h : wfG g) : readW rdGraph okG (graphC g ++ [0]) = none := long_none rt_graph h (by simp)
theorem he0 (W : World) : (binOp .eql 3 (.int .i64 0) (.int .i64 0)).run Tryz.prog W = .ok (.bool true) W := by simp [go_sem]
theorem he2 (W : World) : (binOp .eql 3 (.int .i64 2) (.int .i64 0)).run Tryz.prog W = .ok (.bool false) W := by simp [go_sem]
theorem hnn (b : Bool) (W : World) : (binOp .neq 4 (.bool b) (.bool b)).run Tryz.prog W = .ok (.bool false) W := by cases b <;> simp [go_sem]
end Go.Proofs.YthdfedfholmbmaaGreatDoor

namespace Go.Proofs.YthdfedfholmbmaaGreatDoor
open Go.RowKit
section
variable {w W W1 : World} {o : Value} {l m : List UInt8}
theorem Buf.ap (h : Buf w W o l) (hb : Below W.heap.size W W1) {ad : Addr} {c : Nat} (src : ∀ (j : Nat) (u : Value), (m.map byteV)[j]? = some u → W1.cell? (ad.add j) = some u) (hn : l.length + m.length ≤ 70368744177664) (ty : TypeId) :
    ∃ v W', (Builtin.append_ #[26, 26] ty #[o, .slice (some ad) m.length c]).run Tryz.prog W1 = .ok v W' ∧ Buf w W' v (l ++ m) := by
  have h1 := h.below hb
  obtain ⟨i, i1, i2, i3, i4⟩ := info_u8v
  have hsz := h1.b.size
  obtain ⟨v', W', a1, a2, a3, a4, a5⟩ := append_law (P := Tryz.prog) (w := W1) 26 ty 5 i _ 1 1 Tryz.underlying26 i1 i2 i3 i4 rfl o l.length _ h1.own.1 ad m.length c (m.map byteV)
    (by simp) src (fun u hu => by obtain ⟨s, _, rfl⟩ := List.mem_map.1 hu; rfl) (by unfold maxLen; omega) (by omega)
  refine ⟨v', W', a1, ⟨?_, fun q hq => ?_⟩, ?_⟩
  · rw [List.length_append, List.map_append]; exact a2
  · rcases a4 with e | e
    · exact h1.own.2 q (e.symm.trans hq)
    · rw [e] at hq; cases hq; exact hsz
  · exact a3.below h1.b (fun b hb e => by have := h1.own.2 b e; omega) hsz
theorem Buf.apr (h : Buf w W o l) (hb : Below W.heap.size W W1) {a : Option Addr} {n c : Nat} (hm : RdB W1 (.slice a n c) m) (hn : l.length + m.length ≤ 70368744177664) (ty : TypeId) :
    ∃ v W', (Builtin.append_ #[26, 26] ty #[o, .slice a n c]).run Tryz.prog W1 = .ok v W' ∧ Buf w W' v (l ++ m) := by
  obtain ⟨a', cap, heq, h1, h2⟩ := hm
  cases heq
  cases a with
  | none =>
    have hc := h1.2.2 rfl
    have hn : m = [] := List.eq_nil_of_length_eq_zero (by omega)
    subst hn; subst hc
    obtain ⟨i, i1, i2, i3, i4⟩ := info_u8v
    have hbl := h.below hb
    exact ⟨o, W1, append_law_nil (P := Tryz.prog) 26 ty 5 i 1 Tryz.underlying26 i1 i3 o l.length _ hbl.own.1, by rw [List.append_nil]; exact hbl⟩
  | some ad =>
    have hcell := RdB.at (w := W1) (c := c) ⟨_, _, rfl, h1, h2⟩
    exact h.ap hb (fun j u hu => by
      rw [List.getElem?_map, Option.map_eq_some_iff] at hu
      obtain ⟨b, hb, rfl⟩ := hu
      exact hcell j b hb) hn ty
theorem Buf.rd (h : Buf w W o l) : RdB W o l := by
  have hcells := fun (g : Nat) (e : o.ownBlock = some g) => h.own.1.cells (g := g) e
  rcases h.own.1.2 with ⟨rfl, h0⟩ | ⟨g, cap, cur, rfl, _, hg, hnc, hcm, hcs, htake⟩
  · have : l = [] := List.eq_nil_of_length_eq_zero h0
    subst this
    exact ⟨none, 0, rfl, ⟨Nat.le_refl _, by simp [maxLen], fun _ => rfl⟩, fun ad h => by cases h⟩
  · refine ⟨some ⟨g, 0, none⟩, cap, rfl, ⟨hnc, hcm, fun h => by cases h⟩, fun ad had => ?_⟩
    cases had
    refine ⟨fun _ => rfl, fun i b hi => ?_⟩
    have := hcells g rfl i (.int .u8 (b.toNat : Int)) (by rw [List.getElem?_map, hi]; rfl)
    rw [addr_add] at this; exact this
end
end Go.Proofs.YthdfedfholmbmaaGreatDoor
