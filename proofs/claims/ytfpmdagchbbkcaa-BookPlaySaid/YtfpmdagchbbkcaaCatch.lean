/- The book: a step that fails is given up with, and caught. -/
import Derived.Test.YtfpmdagchbbkcaaPut
import Derived.Test.YtfpmdagchbbkcaaMaps
namespace Go.Proofs.Ytfpmdagchbbkcaa
open Go.RowKit

/-- What is given up with. -/
abbrev stopV (c : Int) : Value := .iface 87 (.agg #[.int .i64 c])
theorem must_bad (c : Int) (hc : (c == 0) = false) (w : World) : Calls Try.prog 40 #[.int .i64 c] w fun e w' => e = .panicked [{ v := stopV c, recovered := false }] ∧ w = w' := by
  have hc2 : (c != 0) = true := by simpa using hc
  go_enter Try.func40, Try.ntmps40
  go_wp2
  exact ⟨rfl, rfl, rfl⟩

set_option maxRecDepth 100000 in
set_option maxHeartbeats 1000000 in
theorem catch_stop {w : World} {P Q b : Nat} {n : Int} {v : Value} {q : Option Addr} {c z : Int} (hp : w.cell? ⟨P, 0, none⟩ = some (.pointer (some ⟨b, 0, none⟩))) (hq : w.heap[Q]? = some (.cells #[.int .i64 z] 30 (0, 0))) (hbk : BookAt w b n v false q) (hne : b ≠ Q) :
    CallsD Try.prog 39 #[.pointer (some ⟨P, 0, none⟩), .pointer (some ⟨Q, 0, none⟩)] (.panicking [{ v := stopV c, recovered := false }]) w fun e u' w' =>
      e = .returned (.tuple #[]) ∧ u' = .panicking [{ v := stopV c, recovered := true }] ∧ BookAt w' b n v true q ∧ w'.cell? ⟨Q, 0, none⟩ = some (.int .i64 c) ∧ Touch (fun x => x = b ∨ x = Q) w w' := by
  have hnil : ∀ w : World, (binOp BinOp.eql 20 (stopV c) .nilIface).run Try.prog w = .ok (.bool false) w := fun _ => by rfl
  have hta : ∀ w : World, (Instr.typeAssert (stopV c) 20 87 true).run Try.prog w = .ok (.tuple #[.agg #[.int .i64 c], .bool true]) w := fun _ => by rfl
  refine callsD_of_wpS Try.func39 rfl fun c₀ cs hu => ?_
  apply wpS_seq
  apply wpS_region
  simp [wpOpsS, go_sem, recoverD, hu, Try.ntmps39, Exit.thenS]
  have e : (#[.pointer (some ⟨P, 0, none⟩), .pointer (some ⟨Q, 0, none⟩)] ++ (Array.replicate 15 undef).setIfInBounds 3 (stopV c) : Array Value) = #[.pointer (some ⟨P, 0, none⟩), .pointer (some ⟨Q, 0, none⟩), undef, undef, undef, stopV c, undef, undef, undef, undef, undef, undef, undef, undef, undef, undef, undef] := rfl
  rw [e]
  clear e
  refine wpS_of_wp ?_
  have HU := Lib.hid hu
  clear hu
  have hB : Below w.heap.size w (w.alloc (.cells #[.int .i64 c] 87)) := (Below.refl _ _).alloc (Nat.le_refl _) _
  have hnew : (w.alloc (.cells #[.int .i64 c] 87)).cell? ⟨w.heap.size, 0, none⟩ = some (.int .i64 c) := by simp [go_sem]
  have HB := Lib.hid (And.intro hB (And.intro hnew (And.intro hp (And.intro hq (And.intro hbk hne)))))
  clear hB hnew hp hq hbk hne
  go_wp2
  obtain ⟨hB, hnew, hp, hq, hbk, hne⟩ := HB.out
  generalize hw1 : w.alloc (.cells #[.int .i64 c] 87) = w1 at *
  have hblt : b < w.heap.size := (Array.getElem?_eq_some_iff.1 hbk).1
  have hQlt : Q < w.heap.size := (Array.getElem?_eq_some_iff.1 hq).1
  have hp1 : w1.drew.cell? ⟨P, 0, none⟩ = some (.pointer (some ⟨b, 0, none⟩)) := belowCell hB.drew (ltOf hp) hp
  have hq1 : w1.drew.heap[Q]? = some (.cells #[.int .i64 z] 30 (0, 0)) := belowBlk hB.drew hQlt hq
  have hbk1 : BookAt w1.drew b n v false q := belowBlk hB.drew hblt hbk
  have hPb : P ≠ b := fun e => by
    subst e
    rw [cellOf (o := 0) hbk rfl] at hp; cases hp
  have hf0 : ∀ W' : World, (Instr.fieldAt 87 (.pointer (some ⟨w.heap.size, 0, none⟩)) 0).run Try.prog W' = .ok (.pointer (some ⟨w.heap.size, 0, none⟩)) W' := by intro W'; simp [go_sem]
  have hf1 : ∀ W' : World, (Instr.fieldAt 52 (.pointer (some ⟨b, 0, none⟩)) 0).run Try.prog W' = .ok (.pointer (some ⟨b, 0, none⟩)) W' := by intro W'; simp [go_sem]
  have hf2 : ∀ W' : World, (Instr.fieldAt 50 (.pointer (some ⟨b, 0, none⟩)) 2).run Try.prog W' = .ok (.pointer (some ⟨b, 2, none⟩)) W' := by intro W'; simp [go_sem]
  have hst1 : (storeVar 4 ⟨b, 2, none⟩ (.bool true)).run Try.prog w1.drew = .ok () (w1.drew.setCell ⟨b, 2, none⟩ (.bool true)) := by
    have h1 := cellOf (o := 2) hbk1 rfl
    have h2 := freeOf (o := 2) hbk1
    simp [storeVar, go_sem, h1, h2]
  have hT1 : Touch (fun x => x = b) w1.drew (w1.drew.setCell ⟨b, 2, none⟩ (.bool true)) := (Touch.refl _ _).setCell (.inl (by exact rfl)) _
  have hbk2 : BookAt (w1.drew.setCell ⟨b, 2, none⟩ (.bool true)) b n v true q := heap_setCell_same w1.drew b 2 _ _ (Value.bool true) hbk1
  have hS0 : w1.drew.cell? ⟨P, 0, none⟩ = some (.pointer (some ⟨b, 0, none⟩)) ∧ w1.drew.cell? ⟨w.heap.size, 0, none⟩ = some (.int .i64 c) := ⟨hp1, hnew⟩
  have hS1 : (w1.drew.setCell ⟨b, 2, none⟩ (.bool true)).cell? ⟨P, 0, none⟩ = some (.pointer (some ⟨b, 0, none⟩)) ∧ (w1.drew.setCell ⟨b, 2, none⟩ (.bool true)).cell? ⟨w.heap.size, 0, none⟩ = some (.int .i64 c) :=
    ⟨hT1.cell hp1 (by exact hPb), hT1.cell hnew (by intro h; omega)⟩
  have hq2 := hT1.heap hq1 (by exact fun h => hne h.symm)
  generalize hw2 : w1.drew.setCell ⟨b, 2, none⟩ (.bool true) = w2 at *
  have hst2 : (storeVar 30 ⟨Q, 0, none⟩ (.int .i64 c)).run Try.prog w2 = .ok () (w2.setCell ⟨Q, 0, none⟩ (.int .i64 c)) := by
    have h1 := cellOf (o := 0) hq2 rfl
    have h2 := freeOf (o := 0) hq2
    simp [storeVar, go_sem, h1, h2]
  have hT2 : Touch (fun x => x = Q) w2 (w2.setCell ⟨Q, 0, none⟩ (.int .i64 c)) := (Touch.refl _ _).setCell (.inl (by exact rfl)) _
  have hfin : BookAt (w2.setCell ⟨Q, 0, none⟩ (.int .i64 c)) b n v true q ∧ (w2.setCell ⟨Q, 0, none⟩ (.int .i64 c)).cell? ⟨Q, 0, none⟩ = some (.int .i64 c) ∧ Touch (fun x => x = b ∨ x = Q) w (w2.setCell ⟨Q, 0, none⟩ (.int .i64 c)) := by
    refine ⟨hT2.heap hbk2 (by exact hne), World.cell?_setCell_same' _ _ _ (by rw [cellOf (o := 0) hq2 rfl]; rfl), ?_⟩
    exact (((Touch.of_below hB (fun x h1 h2 => absurd h1 (by omega))).drew.step hT1 (fun x _ h => .inl h))).step hT2 (fun x _ h => .inr h)
  have Hfin := Lib.hid hfin
  clear hfin
  refine plain_region_draws (fun W => W.cell? ⟨P, 0, none⟩ = some (.pointer (some ⟨b, 0, none⟩)) ∧ W.cell? ⟨w.heap.size, 0, none⟩ = some (.int .i64 c)) (by kernel_rfl) hS0 (fun hS => ?_)
  refine take 0 11 (v := .pointer (some ⟨b, 0, none⟩)) rfl rfl (by kernel_rfl) (by kernel_rfl) (by kernel_rfl) rfl (fun W hW => exec_load rfl rfl (run_load1 (w := W) Try.underlying42 rfl hW.1)) (by assumption) ?_
  simp only [Act.put, List.setIfInBounds_toArray, List.set_cons_zero, List.set_cons_succ]
  refine take 1 12 (v := .pointer (some ⟨w.heap.size, 0, none⟩)) rfl rfl (by kernel_rfl) (by kernel_rfl) (by kernel_rfl) rfl (fun W hW => exec_fieldAddr rfl rfl (hf0 W)) (by assumption) ?_
  simp only [Act.put, List.setIfInBounds_toArray, List.set_cons_zero, List.set_cons_succ]
  refine take 2 13 (v := .int .i64 c) rfl rfl (by kernel_rfl) (by kernel_rfl) (by kernel_rfl) rfl (fun W hW => exec_load rfl rfl (run_load1 (w := W) Try.underlying30 rfl hW.2)) (by assumption) ?_
  simp only [Act.put, List.setIfInBounds_toArray, List.set_cons_zero, List.set_cons_succ]
  refine take 3 14 (v := .pointer (some ⟨b, 0, none⟩)) rfl rfl (by kernel_rfl) (by kernel_rfl) (by kernel_rfl) rfl (fun W hW => rfl) (by assumption) ?_
  simp only [Act.put, List.setIfInBounds_toArray, List.set_cons_zero, List.set_cons_succ]
  refine take 4 15 (v := .pointer (some ⟨b, 0, none⟩)) rfl rfl (by kernel_rfl) (by kernel_rfl) (by kernel_rfl) rfl (fun W hW => exec_fieldAddr rfl rfl (hf1 W)) (by assumption) ?_
  simp only [Act.put, List.setIfInBounds_toArray, List.set_cons_zero, List.set_cons_succ]
  refine take 5 16 (v := .pointer (some ⟨b, 2, none⟩)) rfl rfl (by kernel_rfl) (by kernel_rfl) (by kernel_rfl) rfl (fun W hW => exec_fieldAddr rfl rfl (hf2 W)) (by assumption) ?_
  simp only [Act.put, List.setIfInBounds_toArray, List.set_cons_zero, List.set_cons_succ]
  refine onlySkip 6 rfl rfl (by kernel_rfl) rfl (exec_store rfl rfl rfl hst1) (.inr hS1) ?_
  refine onlySkip 7 rfl rfl (by kernel_rfl) rfl (exec_store rfl rfl rfl hst2) (.inl (by kernel_rfl)) ?_
  refine done (by kernel_rfl) ?_ _
  clear hS hS0 hS1 hst1 hst2 hT1 hT2 hbk1 hbk2 hq1 hq2 hp1 hf0 hf1 hf2 hnew hB hp hq hbk
  go_wp2
  refine ⟨rfl, .panicking [{ v := stopV c, recovered := true }], ?_, _, results_none rfl _ _ _, rfl, rfl, Hfin.out⟩
  rfl
end Go.Proofs.Ytfpmdagchbbkcaa
