/- Keys in order: the sort that value.Map calls. Printed by gen_sk.py. -/
import Derived.Test.YtnkaegdnjfpliaaGreatDoorVeq
import Derived.Test.YtnkaegdnjfpliaaGreatDoorLays3
namespace Go.Proofs.YtnkaegdnjfpliaaGreatDoor
set_option linter.unusedSimpArgs false
set_option linter.unusedVariables false
open Go.RowKit Go.Sort

/-- What lies about Map's closure. -/
structure KeysAt (kb bk ok n c i j : Nat) (s1 s2 : List UInt8) (W : World) : Prop where
  box : W.heap[kb]? = some (.cells #[.slice (some ⟨bk, ok, none⟩) n c] 23 (0, 0))
  one : W.cell? ⟨bk, ok + i, none⟩ = some (.string (strB s1))
  two : W.cell? ⟨bk, ok + j, none⟩ = some (.string (strB s2))
set_option maxRecDepth 100000 in
set_option maxHeartbeats 2000000 in
theorem order_any {w : World} {kb : Nat} {p : Option Addr} {c : Nat} {ks : List (List UInt8)} (hr : RdS w p c ks) (hb : w.heap[kb]? = some (.cells #[.slice p ks.length c] 23 (0, 0))) (i j : Nat) (hi : i < ks.length) (hj : j < ks.length) :
    Calls Tryz.prog 81 #[.int .i64 (i : Int), .int .i64 (j : Int), .pointer (some ⟨kb, 0, none⟩)] w fun e w' => e = .returned (.int .i64 (cmpB ks[i] ks[j])) ∧ w' = w.drew := by
  obtain ⟨bk, ok, rfl, q1, _⟩ := hr.get hi
  obtain ⟨bk2, ok2, hp, q2, _⟩ := hr.get hj
  cases hp
  have hU : KeysAt kb bk ok ks.length c i j ks[i] ks[j] w.drew := ⟨hb, q1, q2⟩
  generalize ks[i] = s1 at *
  generalize ks[j] = s2 at *
  clear hr hb q1 q2
  go_enter Tryz.func81, Tryz.ntmps81
  go_wp2
  refine plain_region_draws (fun W => KeysAt kb bk ok ks.length c i j s1 s2 W) (by kernel_rfl) hU (fun hU0 => ?_)
  refine take 0 6 (v := .slice (some ⟨bk, ok, none⟩) ks.length c) rfl rfl (by kernel_rfl) (by kernel_rfl) (by kernel_rfl) rfl (fun W hW => exec_load rfl rfl (run_load1 (w := W) Tryz.underlying23 rfl (cellOf hW.box rfl))) (by assumption) ?_
  simp only [Act.put, List.setIfInBounds_toArray, List.set_cons_zero, List.set_cons_succ]
  refine take 1 7 (v := .int .i64 (i : Int)) rfl rfl (by kernel_rfl) (by kernel_rfl) (by kernel_rfl) rfl (fun W hW => exec_move rfl rfl) (by assumption) ?_
  simp only [Act.put, List.setIfInBounds_toArray, List.set_cons_zero, List.set_cons_succ]
  refine take 2 8 (v := .pointer (some ⟨bk, ok + i, none⟩)) rfl rfl (by kernel_rfl) (by kernel_rfl) (by kernel_rfl) rfl (fun W hW => exec_indexAddr rfl rfl rfl (ia_keys _ _ _ _ _ hi W)) (by assumption) ?_
  simp only [Act.put, List.setIfInBounds_toArray, List.set_cons_zero, List.set_cons_succ]
  refine take 3 9 (v := .string (strB s1)) rfl rfl (by kernel_rfl) (by kernel_rfl) (by kernel_rfl) rfl (fun W hW => exec_load rfl rfl (run_load1 (w := W) Tryz.underlying9 rfl hW.one)) (by assumption) ?_
  simp only [Act.put, List.setIfInBounds_toArray, List.set_cons_zero, List.set_cons_succ]
  refine take 4 10 (v := .slice (some ⟨bk, ok, none⟩) ks.length c) rfl rfl (by kernel_rfl) (by kernel_rfl) (by kernel_rfl) rfl (fun W hW => exec_load rfl rfl (run_load1 (w := W) Tryz.underlying23 rfl (cellOf hW.box rfl))) (by assumption) ?_
  simp only [Act.put, List.setIfInBounds_toArray, List.set_cons_zero, List.set_cons_succ]
  refine take 5 11 (v := .int .i64 (j : Int)) rfl rfl (by kernel_rfl) (by kernel_rfl) (by kernel_rfl) rfl (fun W hW => exec_move rfl rfl) (by assumption) ?_
  simp only [Act.put, List.setIfInBounds_toArray, List.set_cons_zero, List.set_cons_succ]
  refine take 6 12 (v := .pointer (some ⟨bk, ok + j, none⟩)) rfl rfl (by kernel_rfl) (by kernel_rfl) (by kernel_rfl) rfl (fun W hW => exec_indexAddr rfl rfl rfl (ia_keys _ _ _ _ _ hj W)) (by assumption) ?_
  simp only [Act.put, List.setIfInBounds_toArray, List.set_cons_zero, List.set_cons_succ]
  refine take 7 13 (v := .string (strB s2)) rfl rfl (by kernel_rfl) (by kernel_rfl) (by kernel_rfl) rfl (fun W hW => exec_load rfl rfl (run_load1 (w := W) Tryz.underlying9 rfl hW.two)) (by assumption) ?_
  simp only [Act.put, List.setIfInBounds_toArray, List.set_cons_zero, List.set_cons_succ]
  refine onlyCall 8 14 rfl rfl (by kernel_rfl) rfl (exec_call [.string (strB s1), .string (strB s2)] rfl rfl Tryz.func82 (by kernel_rfl) (by kernel_rfl)) ?_
  refine (strcmp_any s1 s2 _).mono ?_
  rintro e w5 ⟨rfl, rfl⟩
  refine ⟨_, rfl, .inr (by assumption), ?_⟩
  simp only [Act.put, List.setIfInBounds_toArray, List.set_cons_zero, List.set_cons_succ]
  refine take 9 5 (v := .int .i64 (cmpB s1 s2)) rfl rfl (by kernel_rfl) (by kernel_rfl) (by kernel_rfl) rfl (fun W hW => exec_assign rfl rfl) (by assumption) ?_
  simp only [Act.put, List.setIfInBounds_toArray, List.set_cons_zero, List.set_cons_succ]
  refine done (by kernel_rfl) ?_ _
  go_wp2
  go_ret
  exact ⟨rfl, rfl⟩
/-! ### The sort's words -/
section
variable {α : Type} [Inhabited α] (enc : α → Value) (W : World) (g m : Nat) (d : Array α) (os : Array Obj)
theorem sortWorld_other {b : Nat} (hb : b < W.heap.size) (hg : b ≠ g) : (sortWorld enc W g 0 m d os).heap[b]? = W.heap[b]? := by
  unfold sortWorld
  rw [heap_grow_old _ _ (by simpa using hb)]
  unfold putRow mapBlock
  show (W.heap.modify g _)[b]? = _
  rw [Array.getElem?_modify, if_neg (fun e => hg e.symm)]
theorem sortWorld_row {cs : Array Value} {t : TypeId} {fr : Nat × Nat} (h : W.heap[g]? = some (.cells cs t fr)) : (sortWorld enc W g 0 m d os).heap[g]? = some (.cells (putCells enc 0 d cs) t fr) := by
  have hb := (Array.getElem?_eq_some_iff.1 h).1
  unfold sortWorld
  rw [heap_grow_old _ _ (by simpa using hb)]
  unfold putRow mapBlock
  show (W.heap.modify g _)[g]? = _
  rw [Array.getElem?_modify, if_pos rfl, h]
  rfl
theorem sortWorld_size : W.heap.size ≤ (sortWorld enc W g 0 m d os).heap.size := by
  unfold sortWorld
  simp
theorem sortWorld_touch : Touch (fun b => b = g) W (sortWorld enc W g 0 m d os) := ⟨rfl, rfl, rfl, sortWorld_size enc W g m d os, fun b hb hg => sortWorld_other enc W g m d os hb hg⟩
theorem putCells_get {cs : Array Value} (hs : cs.size = d.size) {i : Nat} (hi : i < d.size) : (putCells enc 0 d cs)[i]? = some (enc d[i]!) := by
  unfold putCells
  rw [Array.getElem?_mapIdx, Array.getElem?_eq_getElem (by omega), Option.map_some, if_pos ⟨Nat.zero_le _, by omega⟩]
  rfl
end
theorem cmpB_lt_swo {α : Type} (f : α → List UInt8) : SWO (Go.Proofs.ltOf fun x y => cmpB (f x) (f y)) := by
  have hO := fun x => ord_cmpB (f x)
  refine ⟨fun x => ?_, fun x y z h1 h2 => ?_, fun x y z h1 h2 => ?_⟩
  · simp only [Go.Proofs.ltOf, (hO x).self]; rfl
  · simp only [Go.Proofs.ltOf, decide_eq_true_iff] at *
    have e1 : cmpB (f x) (f y) = -1 := by have := (hO x).range (f y); omega
    have := (hO x).chain (f y) (f z) e1 (by omega)
    omega
  · simp only [Go.Proofs.ltOf, decide_eq_false_iff_not] at *
    intro h3
    have e1 : cmpB (f x) (f z) = -1 := by have := (hO x).range (f z); omega
    have e2 : cmpB (f z) (f y) ≤ 0 := by have := (hO y).anti (f z); omega
    have := (hO x).chain (f z) (f y) e1 e2
    omega
theorem extract_all {β : Type} (d : Array β) (n : Nat) (h : d.size ≤ n) : d.extract 0 n = d := by
  apply Array.ext_getElem?
  intro i
  rw [Array.getElem?_extract]
  by_cases hi : i < d.size
  · rw [if_pos (by omega), Nat.zero_add]
  · rw [if_neg (by omega), Array.getElem?_eq_none (by omega)]
/-- Keys in order, told by their places. -/
def InOrder (ks : List (List UInt8)) (p : List Nat) : Prop := ∀ i j (hi : i < p.length) (hj : j < p.length), i < j → cmpB (ks.getD p[i] []) (ks.getD p[j] []) ≤ 0
theorem sort_keys {w W : World} {kb g cap : Nat} {p : Option Addr} {c : Nat} {ks : List (List UInt8)} {cs : Array Value} (hr : RdS w p c ks) (hn : ks.length ≤ 1000000) (hbel : Below w.heap.size w W) (hkb : w.heap.size ≤ kb) (hg : kb < g)
    (hb : W.heap[kb]? = some (.cells #[.slice p ks.length c] 23 (0, 0))) (hrow : W.heap[g]? = some (.cells cs 3 (0, 0))) (hcs : cs.size = ks.length) (hval : ∀ i, i < ks.length → cs[i]? = some (.int .i64 (i : Int))) :
    Calls Tryz.prog 80 #[.slice (some ⟨g, 0, none⟩) ks.length cap, .func (.func 81) #[] #[.pointer (some ⟨kb, 0, none⟩)]] W fun e w' => e = .returned (.tuple #[]) ∧
      Touch (fun b => b = g) W w' ∧ ∃ q cs', w'.heap[g]? = some (.cells cs' 3 (0, 0)) ∧ q.Perm (List.range ks.length) ∧ InOrder ks q ∧ ∀ i (hi : i < q.length), cs'[i]? = some (.int .i64 (q[i] : Int)) := by
  by_cases h0 : ks.length = 0
  · rw [h0]
    refine (AnyF.slices_SortFunc_none { Tryz.sortInts with } _ _ _ _).mono ?_
    rintro e w' ⟨rfl, rfl⟩
    refine ⟨rfl, ⟨rfl, rfl, rfl, Nat.le_refl _, fun _ _ _ => rfl⟩, [], cs, hrow, by simp, fun i j hi => by simp at hi, fun i hi => by simp at hi⟩
  · have hpos : 0 < ks.length := by omega
    haveI : Inhabited (Fin ks.length) := ⟨⟨0, hpos⟩⟩
    have hd : ∀ j (hj : j < ks.length), (Array.ofFn (fun i : Fin ks.length => i))[j]! = (⟨j, hj⟩ : Fin ks.length) := by
      intro j hj
      rw [getElem!_pos _ j (by simpa using hj)]
      simp
    have hds : (Array.ofFn (fun i : Fin ks.length => i)).size = ks.length := by simp
    have hglt := (Array.getElem?_eq_some_iff.1 hrow).1
    have hblt := (Array.getElem?_eq_some_iff.1 hb).1
    have hS := Any.slices_SortFunc Tryz.sortInts (fun i : Fin ks.length => .int .i64 (i.val : Int)) (fun _ => rfl) (fun x y => cmpB ks[x] ks[y]) (cmpB_lt_swo fun x : Fin ks.length => ks[x]) 81 #[.pointer (some ⟨kb, 0, none⟩)] g 0 cap (Array.ofFn (fun i : Fin ks.length => i)) W
      (enters_of Tryz.func81 (by kernel_rfl) rfl)
      (fun m os dk hs x y => by
        have hbX := sortWorld_other (fun i : Fin ks.length => Value.int .i64 (i.val : Int)) W g m dk os hblt (by omega)
        have hbelX : Below w.heap.size w (sortWorld (fun i : Fin ks.length => Value.int .i64 (i.val : Int)) W g 0 m dk os) :=
          hbel.trans ⟨rfl, rfl, rfl, sortWorld_size _ W g m dk os, fun k hk => sortWorld_other _ W g m dk os (by omega) (by omega)⟩
        refine (order_any (hr.below hbelX) (hbX.trans hb) x.val y.val x.isLt y.isLt).mono ?_
        rintro e w' ⟨rfl, rfl⟩
        exact ⟨rfl, 1, #[], by rw [grow_empty]; rfl⟩)
      (fun j hj => by
        rw [hds] at hj
        rw [hd j hj, Nat.zero_add]
        exact ⟨cellOf hrow (hval j hj), freeOf hrow⟩) hglt (by rw [hds]; omega)
    rw [hds] at hS
    refine hS.mono ?_
    rintro e w' ⟨rfl, d', m, os, hperm, hsort, rfl⟩
    have hd's : d'.size = ks.length := by rw [hperm.1, hds]
    have hl : (d'.toList.map Fin.val).length = ks.length := by simp [hd's]
    have hgetF : ∀ i (hi : i < ks.length), d'[i]! = d'[i]'(by omega) := fun i hi => getElem!_pos _ i (by omega)
    have hget : ∀ i (hi : i < (d'.toList.map Fin.val).length), (d'.toList.map Fin.val)[i] = (d'[i]!).val := by
      intro i hi
      rw [hl] at hi
      rw [hgetF i hi]
      simp
    refine ⟨rfl, sortWorld_touch _ W g m d' os, d'.toList.map Fin.val, _, sortWorld_row _ W g m d' os hrow, ?_, ?_, ?_⟩
    · have h1 := hperm.2.2
      rw [extract_all d' _ (by rw [hd's]; exact Nat.le_refl _), extract_all (Array.ofFn fun i : Fin ks.length => i) _ (by rw [hds]; exact Nat.le_refl _)] at h1
      have h2 := h1.map Fin.val
      refine h2.trans ?_
      rw [Array.toList_ofFn]
      have : List.map Fin.val (List.ofFn fun i : Fin ks.length => i) = List.range ks.length := by
        apply List.ext_getElem?
        intro i
        simp [List.getElem?_ofFn, List.getElem?_range]
        by_cases h : i < ks.length <;> simp [h]
      rw [this]
    · intro i j hi hj hij
      rw [hget i hi, hget j hj]
      rw [hl] at hi hj
      have h := hsort i j (Nat.zero_le _) hij hj
      simp only [Go.Proofs.ltOf, decide_eq_false_iff_not] at h
      have e : ∀ x : Fin ks.length, ks.getD x.val [] = ks[x] := fun x => by simp [List.getD]
      rw [e, e]
      have := (ord_cmpB ks[d'[j]!]).anti ks[d'[i]!]
      omega
    · intro i hi
      rw [hget i hi]
      rw [hl] at hi
      exact putCells_get _ d' (by rw [hcs, hd's]) (by omega)
end Go.Proofs.YtnkaegdnjfpliaaGreatDoor
