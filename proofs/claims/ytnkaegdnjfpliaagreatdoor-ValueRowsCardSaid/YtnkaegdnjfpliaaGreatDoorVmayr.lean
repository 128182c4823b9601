/- The document's May. Printed by gen_may.py. -/
import Derived.Test.YtnkaegdnjfpliaaGreatDoorVref3
namespace Go.Proofs.YtnkaegdnjfpliaaGreatDoor
set_option linter.unusedSimpArgs false
set_option linter.unusedVariables false
open Go.RowKit

/-- What is asked ahead of the loops. -/
def headV (u : List UInt8 → Bool) (v : V) : Bool :=
  decide (0 ≤ v.kind) && decide (v.kind ≤ 7) && bareV v && (!(v.kind == 6 || v.kind == 7) || decide (0 ≤ v.n)) && u v.text && (!(v.kind == 5) || v.keys.length == v.list.length)
theorem oneV_head (u : List UInt8 → Bool) (v : V) : oneV u v = (headV u v && v.keys.all u && risesB v.keys) := rfl
theorem mayV_head (u : List UInt8 → Bool) (k : Int) (b : Bool) (n : Int) (t : List UInt8) (ks : List (List UInt8)) (l : List V) : mayV u (.mk k b n t ks l) = (headV u (.mk k b n t ks l) && ks.all u && risesB ks && mayVs u l) := by
  rw [mayV, oneV_head]; rfl
theorem mayVs_all (u : List UInt8 → Bool) (l : List V) : mayVs u l = l.all (mayV u) := by
  induction l with
  | nil => rfl
  | cons a r ih => rw [mayVs, ih]; rfl
/-- Keys that may be, so far; values that may be, so far. -/
def KeysOk (l : List (List UInt8)) : Prop := l.all Lib.validD = true ∧ risesB l = true
structure MayNo (l : List V) : Prop where
  no : l.all (mayV Lib.validD) = false
def ValsOk (l : List V) : Prop := l.all (mayV Lib.validD) = true
/-- What the regions over keys see. -/
structure KeyU (w : World) (X : Array Value) (bk o1 o2 : Nat) (s1 s2 : List UInt8) (W : World) : Prop where
  box : OneB w W X
  one : W.cell? ⟨bk, o1, none⟩ = some (.string (strB s1))
  two : W.cell? ⟨bk, o2, none⟩ = some (.string (strB s2))
theorem geq_str (s1 s2 : List UInt8) (W : World) : (binOp .geq 9 (.string (strB s1)) (.string (strB s2))).run Tryz.prog W = .ok (.bool (!(ltB s1 s2))) W := by
  simp [go_sem, strB_toList, less_eq]
set_option maxRecDepth 100000 in
set_option maxHeartbeats 16000000 in
theorem mayR_any : ∀ (v : V) (w : World) (x : Array Value), VRd w v x → Calls Tryz.prog 68 #[.agg x] w fun e w' => e = .returned (.bool (mayV Lib.validD v)) ∧ Below w.heap.size w w' := by
  refine V.ind fun k b n t ks l ih => ?_
  intro w x hx
  have HBR := Lib.hid (fun (W : World) (hb : Below w.heap.size w W) => bareR_any (hx.below hb))
  rw [mayV_head, mayVs_all]
  have hT := OneB.start w x
  obtain ⟨pk, ck, pl, cl, rfl, htx, hk1, hl1⟩ := VRd_iff.1 hx
  have z1 : (ks.length : Int) ≤ 140737488355328 := by have := hk1.1; have := hk1.2.1; omega
  have z2 : (l.length : Int) ≤ 140737488355328 := by have := hl1.1.2.1; omega
  have hh : headV Lib.validD (.mk k b n t ks l) = (decide (0 ≤ k) && decide (k ≤ 7) && bareV (.mk k b n t ks l) && (!(k == 6 || k == 7) || decide (0 ≤ n)) && Lib.validD t && (!(k == 5) || ks.length == l.length)) := rfl
  have HU := Lib.hid (fun (W : World) => utfR_any t W htx)
  have HK := Lib.hid (And.intro hk1 (And.intro hl1 ih))
  have HT := Lib.hid hT
  have px0 := cellOf (o := 0) hT.1 rfl; have px1 := cellOf (o := 1) hT.1 rfl; have px2 := cellOf (o := 2) hT.1 rfl; have px3 := cellOf (o := 3) hT.1 rfl; have px4 := cellOf (o := 4) hT.1 rfl; have px5 := cellOf (o := 5) hT.1 rfl
  clear ih hx hk1 hl1 hT htx px0 px1 px2 px3 px4 px5
  generalize bareV (.mk k b n t ks l) = B at *
  generalize Lib.validD t = U at *
  cases hc : headV Lib.validD (.mk k b n t ks l) with
  | false =>
    rw [hc] at hh
    have hh2 : B = true → U = true → (k < 0 ∨ 7 < k ∨ ((k = 6 ∨ k = 7) ∧ n < 0) ∨ (k = 5 ∧ (ks.length : Int) ≠ l.length)) := by
      rintro rfl rfl
      by_cases h : k < 0 ∨ 7 < k ∨ ((k = 6 ∨ k = 7) ∧ n < 0) ∨ (k = 5 ∧ (ks.length : Int) ≠ l.length)
      · exact h
      · have : (decide (0 ≤ k) && decide (k ≤ 7) && true && (!(k == 6 || k == 7) || decide (0 ≤ n)) && true && (!(k == 5) || ks.length == l.length)) = true := by
          simp only [Bool.and_eq_true, decide_eq_true_eq, Bool.or_eq_true, Bool.not_eq_true', Bool.or_eq_false_iff, beq_eq_false_iff_ne, beq_iff_eq]
          exact ⟨⟨⟨⟨⟨by omega, by omega⟩, trivial⟩, by omega⟩, trivial⟩, by omega⟩
        rw [this] at hh
        cases hh
    have HH := Lib.hid hh2
    clear hh hc hh2
    by_cases hlen : (ks.length : Int) = l.length
    all_goals cases B
    all_goals cases U
    all_goals
      go_enter Tryz.func68, Tryz.ntmps68
      go_wp2_with (first
        | (go_at_call 101
           (
             refine (HBR.out _ HT.out.2).mono ?_
             rintro e w1 ⟨rfl, hb⟩
             have hT1 := HT.out.below hb
             have px0 := cellOf (o := 0) hT1.1 rfl; have px1 := cellOf (o := 1) hT1.1 rfl; have px2 := cellOf (o := 2) hT1.1 rfl; have px3 := cellOf (o := 3) hT1.1 rfl; have px4 := cellOf (o := 4) hT1.1 rfl; have px5 := cellOf (o := 5) hT1.1 rfl
             have HT := Lib.hid hT1
             clear hT1 hb))
        | (go_at_call 30; refine (HU.out _).mono ?_; rintro e w' ⟨rfl, rfl⟩))
      all_goals first
        | (go_ret; exact ⟨rfl, HT.out.2⟩)
        | (exfalso; have h := HH.out (by trivial) (by trivial); omega)
  | true =>
    rw [hc] at hh
    have h1 := hh.symm
    simp only [Bool.and_eq_true, decide_eq_true_eq, Bool.or_eq_true, Bool.not_eq_true', Bool.or_eq_false_iff, beq_eq_false_iff_ne, beq_iff_eq] at h1
    obtain ⟨⟨⟨⟨⟨k0, k7⟩, rfl⟩, h67⟩, rfl⟩, h5⟩ := h1
    clear hh hc
    have hcs : (k = 5 ∧ (ks.length : Int) = l.length) ∨ (k = 6 ∧ 0 ≤ n) ∨ (k = 7 ∧ 0 ≤ n) ∨ (0 ≤ k ∧ k ≤ 4) := by omega
    have g0 : ¬ k < 0 := by omega
    have g7 : ¬ 7 < k := by omega
    have hfacts : ((k == 5) = true ∧ (k == 6) = false ∧ (k == 7) = false ∧ ((ks.length : Int) != (l.length : Int)) = false) ∨ ((k == 5) = false ∧ (k == 6) = true ∧ (k == 7) = false ∧ ¬ n < 0) ∨ ((k == 5) = false ∧ (k == 6) = false ∧ (k == 7) = true ∧ ¬ n < 0) ∨ ((k == 5) = false ∧ (k == 6) = false ∧ (k == 7) = false ∧ (0 : Int) ≤ 0) := by
      simp only [beq_iff_eq, beq_eq_false_iff_ne, bne_eq_false_iff_eq]
      omega
    clear h67 h5 k0 k7 hcs
    rcases hfacts with ⟨d5, d6, d7, d8⟩ | ⟨d5, d6, d7, d8⟩ | ⟨d5, d6, d7, d8⟩ | ⟨d5, d6, d7, d8⟩
    all_goals
      go_enter Tryz.func68, Tryz.ntmps68
      go_wp2_with (first
        | (go_at_call 101
           (
             refine (HBR.out _ HT.out.2).mono ?_
             rintro e w1 ⟨rfl, hb⟩
             have hT1 := HT.out.below hb
             have px0 := cellOf (o := 0) hT1.1 rfl; have px1 := cellOf (o := 1) hT1.1 rfl; have px2 := cellOf (o := 2) hT1.1 rfl; have px3 := cellOf (o := 3) hT1.1 rfl; have px4 := cellOf (o := 4) hT1.1 rfl; have px5 := cellOf (o := 5) hT1.1 rfl
             have HT := Lib.hid hT1
             clear hT1 hb))
        | (go_at_call 30; refine (HU.out _).mono ?_; rintro e w' ⟨rfl, rfl⟩))
      clear d5 d6 d7 d8 g0 g7 px0 px1 px2 px3 px4 px5
      have HT0 := HT
      go_loopw [3] (fun i W => ∃ j : Nat, j ≤ ks.length ∧ i = .int .i64 (j : Int) ∧ Hid (KeysOk (ks.take j)) ∧ Hid (OneB w W #[.int .i64 k, .bool b, .int .i64 n, .string (strB t), .slice pk ks.length ck, .slice pl l.length cl])) (fun i _ => ks.length - (intOf i).toNat)
      case atStart => exact ⟨0, Nat.zero_le _, rfl, Lib.hid ⟨rfl, rfl⟩, HT0⟩
      case round =>
        clear HT HT0
        obtain ⟨j, hj, rfl, HQ, HT⟩ := hrel
        have hT1 := HT.out
        have px0 := cellOf (o := 0) hT1.1 rfl; have px1 := cellOf (o := 1) hT1.1 rfl; have px2 := cellOf (o := 2) hT1.1 rfl; have px3 := cellOf (o := 3) hT1.1 rfl; have px4 := cellOf (o := 4) hT1.1 rfl; have px5 := cellOf (o := 5) hT1.1 rfl
        by_cases hlt : j < ks.length
        · have hlt1 : j + 1 ≤ ks.length := hlt
          obtain ⟨bk, ok, rfl, q0, ql⟩ := (HK.out.1.below hT1.2).get hlt
          have hcu := fun (W : World) => utfR_any ks[j] W ql
          have htk : ks.take (j + 1) = ks.take j ++ [ks[j]] := List.take_succ_eq_append_getElem hlt
          have hall : (ks.take (j + 1)).all Lib.validD = Lib.validD ks[j] := by rw [htk, List.all_append, HQ.out.1]; simp
          have hno : Lib.validD ks[j] = false → ks.all Lib.validD = false := fun h => List.all_eq_false.2 ⟨ks[j], List.getElem_mem hlt, by rw [h]; simp⟩
          clear hT1 ql
          go_wp2
          cases hv : Lib.validD ks[j] with
          | false =>
            simp only [hv] at hcu
            have hU : KeyU w #[.int .i64 k, .bool b, .int .i64 n, .string (strB t), .slice (some ⟨bk, ok, none⟩) ks.length ck, .slice pl l.length cl] bk (ok + j) (ok + j) ks[j] ks[j] wr.drew := ⟨HT.out.below (Below.refl _ _).drew, q0, q0⟩
            refine plain_region_draws (fun W => KeyU w #[.int .i64 k, .bool b, .int .i64 n, .string (strB t), .slice (some ⟨bk, ok, none⟩) ks.length ck, .slice pl l.length cl] bk (ok + j) (ok + j) ks[j] ks[j] W) (by kernel_rfl) hU (fun hU => ?_)
            refine take 0 60 (v := .pointer (some ⟨w.heap.size, 4, none⟩)) rfl rfl (by kernel_rfl) (by kernel_rfl) (by kernel_rfl) rfl (fun W hW => exec_fieldAddr rfl rfl (fa_value _ _ (by decide) W)) (by assumption) ?_
            simp only [Act.put, List.setIfInBounds_toArray, List.set_cons_zero, List.set_cons_succ]
            refine take 1 61 (v := .slice (some ⟨bk, ok, none⟩) ks.length ck) rfl rfl (by kernel_rfl) (by kernel_rfl) (by kernel_rfl) rfl (fun W hW => exec_load rfl rfl (run_load1 (w := W) Tryz.underlying23 rfl (cellOf hW.box.1 rfl))) (by assumption) ?_
            simp only [Act.put, List.setIfInBounds_toArray, List.set_cons_zero, List.set_cons_succ]
            refine take 2 62 (v := .int .i64 (j : Int)) rfl rfl (by kernel_rfl) (by kernel_rfl) (by kernel_rfl) rfl (fun W hW => exec_move rfl rfl) (by assumption) ?_
            simp only [Act.put, List.setIfInBounds_toArray, List.set_cons_zero, List.set_cons_succ]
            refine take 3 63 (v := .pointer (some ⟨bk, ok + j, none⟩)) rfl rfl (by kernel_rfl) (by kernel_rfl) (by kernel_rfl) rfl (fun W hW => exec_indexAddr rfl rfl rfl (ia_keys _ _ _ _ _ hlt W)) (by assumption) ?_
            simp only [Act.put, List.setIfInBounds_toArray, List.set_cons_zero, List.set_cons_succ]
            refine take 4 64 (v := .string (strB ks[j])) rfl rfl (by kernel_rfl) (by kernel_rfl) (by kernel_rfl) rfl (fun W hW => exec_load rfl rfl (run_load1 (w := W) Tryz.underlying9 rfl hW.two)) (by assumption) ?_
            simp only [Act.put, List.setIfInBounds_toArray, List.set_cons_zero, List.set_cons_succ]
            refine onlyCall 5 65 rfl rfl (by kernel_rfl) rfl (exec_call [.string (strB ks[j])] rfl rfl Tryz.func30 (by kernel_rfl) (by kernel_rfl)) ?_
            refine (hcu _).mono ?_
            rintro e w' ⟨rfl, rfl⟩
            refine ⟨_, rfl, .inr (by assumption), ?_⟩
            simp only [Act.put, List.setIfInBounds_toArray, List.set_cons_zero, List.set_cons_succ]
            refine take 6 66 (v := .bool true) rfl rfl (by kernel_rfl) (by kernel_rfl) (by kernel_rfl) rfl (fun W hW => exec_unot (b := false) rfl rfl) (by assumption) ?_
            simp only [Act.put, List.setIfInBounds_toArray, List.set_cons_zero, List.set_cons_succ]
            refine take 7 67 (v := .bool true) rfl rfl (by kernel_rfl) (by kernel_rfl) (by kernel_rfl) rfl (fun W hW => exec_move rfl rfl) (by assumption) ?_
            simp only [Act.put, List.setIfInBounds_toArray, List.set_cons_zero, List.set_cons_succ]
            refine takeNot 8 68 rfl rfl (by kernel_rfl) (by kernel_rfl) (by kernel_rfl) rfl (by assumption) ?_
            simp only [Act.put, List.setIfInBounds_toArray, List.set_cons_zero, List.set_cons_succ]
            refine takeNot 9 69 rfl rfl (by kernel_rfl) (by kernel_rfl) (by kernel_rfl) rfl (by assumption) ?_
            simp only [Act.put, List.setIfInBounds_toArray, List.set_cons_zero, List.set_cons_succ]
            refine takeNot 10 70 rfl rfl (by kernel_rfl) (by kernel_rfl) (by kernel_rfl) rfl (by assumption) ?_
            simp only [Act.put, List.setIfInBounds_toArray, List.set_cons_zero, List.set_cons_succ]
            refine takeNot 11 71 rfl rfl (by kernel_rfl) (by kernel_rfl) (by kernel_rfl) rfl (by assumption) ?_
            simp only [Act.put, List.setIfInBounds_toArray, List.set_cons_zero, List.set_cons_succ]
            refine takeNot 12 72 rfl rfl (by kernel_rfl) (by kernel_rfl) (by kernel_rfl) rfl (by assumption) ?_
            simp only [Act.put, List.setIfInBounds_toArray, List.set_cons_zero, List.set_cons_succ]
            refine takeNot 13 73 rfl rfl (by kernel_rfl) (by kernel_rfl) (by kernel_rfl) rfl (by assumption) ?_
            simp only [Act.put, List.setIfInBounds_toArray, List.set_cons_zero, List.set_cons_succ]
            refine takeNot 14 74 rfl rfl (by kernel_rfl) (by kernel_rfl) (by kernel_rfl) rfl (by assumption) ?_
            simp only [Act.put, List.setIfInBounds_toArray, List.set_cons_zero, List.set_cons_succ]
            refine takeNot 15 75 rfl rfl (by kernel_rfl) (by kernel_rfl) (by kernel_rfl) rfl (by assumption) ?_
            simp only [Act.put, List.setIfInBounds_toArray, List.set_cons_zero, List.set_cons_succ]
            refine takeNot 16 76 rfl rfl (by kernel_rfl) (by kernel_rfl) (by kernel_rfl) rfl (by assumption) ?_
            simp only [Act.put, List.setIfInBounds_toArray, List.set_cons_zero, List.set_cons_succ]
            refine takeNot 17 77 rfl rfl (by kernel_rfl) (by kernel_rfl) (by kernel_rfl) rfl (by assumption) ?_
            simp only [Act.put, List.setIfInBounds_toArray, List.set_cons_zero, List.set_cons_succ]
            refine takeNot 18 78 rfl rfl (by kernel_rfl) (by kernel_rfl) (by kernel_rfl) rfl (by assumption) ?_
            simp only [Act.put, List.setIfInBounds_toArray, List.set_cons_zero, List.set_cons_succ]
            refine takeNot 19 79 rfl rfl (by kernel_rfl) (by kernel_rfl) (by kernel_rfl) rfl (by assumption) ?_
            simp only [Act.put, List.setIfInBounds_toArray, List.set_cons_zero, List.set_cons_succ]
            refine takeNot 20 80 rfl rfl (by kernel_rfl) (by kernel_rfl) (by kernel_rfl) rfl (by assumption) ?_
            simp only [Act.put, List.setIfInBounds_toArray, List.set_cons_zero, List.set_cons_succ]
            refine takeNot 21 81 rfl rfl (by kernel_rfl) (by kernel_rfl) (by kernel_rfl) rfl (by assumption) ?_
            simp only [Act.put, List.setIfInBounds_toArray, List.set_cons_zero, List.set_cons_succ]
            refine takeNot 22 82 rfl rfl (by kernel_rfl) (by kernel_rfl) (by kernel_rfl) rfl (by assumption) ?_
            simp only [Act.put, List.setIfInBounds_toArray, List.set_cons_zero, List.set_cons_succ]
            refine takeNot 23 83 rfl rfl (by kernel_rfl) (by kernel_rfl) (by kernel_rfl) rfl (by assumption) ?_
            simp only [Act.put, List.setIfInBounds_toArray, List.set_cons_zero, List.set_cons_succ]
            refine take 24 84 (v := .bool true) rfl rfl (by kernel_rfl) (by kernel_rfl) (by kernel_rfl) rfl (fun W hW => rfl) (by assumption) ?_
            simp only [Act.put, List.setIfInBounds_toArray, List.set_cons_zero, List.set_cons_succ]
            refine done (by kernel_rfl) ?_ _
            go_wp2
            go_ret
            exact ⟨ret_bool (by rw [hno hv]; simp), hU.box.2⟩
          | true =>
            simp only [hv] at hcu
            rw [hv] at hall
            by_cases hj0 : j = 0
            · have hgt : ∀ W : World, (binOp .gtr 3 (.int .i64 (j : Int)) (.int .i64 0)).run Tryz.prog W = .ok (.bool false) W := by
                intro W; simp [go_sem, hj0]
              have hU : KeyU w #[.int .i64 k, .bool b, .int .i64 n, .string (strB t), .slice (some ⟨bk, ok, none⟩) ks.length ck, .slice pl l.length cl] bk (ok + j) (ok + j) ks[j] ks[j] wr.drew := ⟨HT.out.below (Below.refl _ _).drew, q0, q0⟩
              refine plain_region_draws (fun W => KeyU w #[.int .i64 k, .bool b, .int .i64 n, .string (strB t), .slice (some ⟨bk, ok, none⟩) ks.length ck, .slice pl l.length cl] bk (ok + j) (ok + j) ks[j] ks[j] W) (by kernel_rfl) hU (fun hU => ?_)
              refine take 0 60 (v := .pointer (some ⟨w.heap.size, 4, none⟩)) rfl rfl (by kernel_rfl) (by kernel_rfl) (by kernel_rfl) rfl (fun W hW => exec_fieldAddr rfl rfl (fa_value _ _ (by decide) W)) (by assumption) ?_
              simp only [Act.put, List.setIfInBounds_toArray, List.set_cons_zero, List.set_cons_succ]
              refine take 1 61 (v := .slice (some ⟨bk, ok, none⟩) ks.length ck) rfl rfl (by kernel_rfl) (by kernel_rfl) (by kernel_rfl) rfl (fun W hW => exec_load rfl rfl (run_load1 (w := W) Tryz.underlying23 rfl (cellOf hW.box.1 rfl))) (by assumption) ?_
              simp only [Act.put, List.setIfInBounds_toArray, List.set_cons_zero, List.set_cons_succ]
              refine take 2 62 (v := .int .i64 (j : Int)) rfl rfl (by kernel_rfl) (by kernel_rfl) (by kernel_rfl) rfl (fun W hW => exec_move rfl rfl) (by assumption) ?_
              simp only [Act.put, List.setIfInBounds_toArray, List.set_cons_zero, List.set_cons_succ]
              refine take 3 63 (v := .pointer (some ⟨bk, ok + j, none⟩)) rfl rfl (by kernel_rfl) (by kernel_rfl) (by kernel_rfl) rfl (fun W hW => exec_indexAddr rfl rfl rfl (ia_keys _ _ _ _ _ hlt W)) (by assumption) ?_
              simp only [Act.put, List.setIfInBounds_toArray, List.set_cons_zero, List.set_cons_succ]
              refine take 4 64 (v := .string (strB ks[j])) rfl rfl (by kernel_rfl) (by kernel_rfl) (by kernel_rfl) rfl (fun W hW => exec_load rfl rfl (run_load1 (w := W) Tryz.underlying9 rfl hW.two)) (by assumption) ?_
              simp only [Act.put, List.setIfInBounds_toArray, List.set_cons_zero, List.set_cons_succ]
              refine onlyCall 5 65 rfl rfl (by kernel_rfl) rfl (exec_call [.string (strB ks[j])] rfl rfl Tryz.func30 (by kernel_rfl) (by kernel_rfl)) ?_
              refine (hcu _).mono ?_
              rintro e w' ⟨rfl, rfl⟩
              refine ⟨_, rfl, .inr (by assumption), ?_⟩
              simp only [Act.put, List.setIfInBounds_toArray, List.set_cons_zero, List.set_cons_succ]
              refine take 6 66 (v := .bool false) rfl rfl (by kernel_rfl) (by kernel_rfl) (by kernel_rfl) rfl (fun W hW => exec_unot (b := true) rfl rfl) (by assumption) ?_
              simp only [Act.put, List.setIfInBounds_toArray, List.set_cons_zero, List.set_cons_succ]
              refine take 7 67 (v := .bool false) rfl rfl (by kernel_rfl) (by kernel_rfl) (by kernel_rfl) rfl (fun W hW => exec_move rfl rfl) (by assumption) ?_
              simp only [Act.put, List.setIfInBounds_toArray, List.set_cons_zero, List.set_cons_succ]
              refine take 8 68 (v := .int .i64 (j : Int)) rfl rfl (by kernel_rfl) (by kernel_rfl) (by kernel_rfl) rfl (fun W hW => exec_move rfl rfl) (by assumption) ?_
              simp only [Act.put, List.setIfInBounds_toArray, List.set_cons_zero, List.set_cons_succ]
              refine take 9 69 (v := .bool false) rfl rfl (by kernel_rfl) (by kernel_rfl) (by kernel_rfl) rfl (fun W hW => exec_bini rfl rfl rfl (hgt W)) (by assumption) ?_
              simp only [Act.put, List.setIfInBounds_toArray, List.set_cons_zero, List.set_cons_succ]
              refine take 10 70 (v := .bool false) rfl rfl (by kernel_rfl) (by kernel_rfl) (by kernel_rfl) rfl (fun W hW => exec_move rfl rfl) (by assumption) ?_
              simp only [Act.put, List.setIfInBounds_toArray, List.set_cons_zero, List.set_cons_succ]
              refine takeNot 11 71 rfl rfl (by kernel_rfl) (by kernel_rfl) (by kernel_rfl) rfl (by assumption) ?_
              simp only [Act.put, List.setIfInBounds_toArray, List.set_cons_zero, List.set_cons_succ]
              refine takeNot 12 72 rfl rfl (by kernel_rfl) (by kernel_rfl) (by kernel_rfl) rfl (by assumption) ?_
              simp only [Act.put, List.setIfInBounds_toArray, List.set_cons_zero, List.set_cons_succ]
              refine takeNot 13 73 rfl rfl (by kernel_rfl) (by kernel_rfl) (by kernel_rfl) rfl (by assumption) ?_
              simp only [Act.put, List.setIfInBounds_toArray, List.set_cons_zero, List.set_cons_succ]
              refine takeNot 14 74 rfl rfl (by kernel_rfl) (by kernel_rfl) (by kernel_rfl) rfl (by assumption) ?_
              simp only [Act.put, List.setIfInBounds_toArray, List.set_cons_zero, List.set_cons_succ]
              refine takeNot 15 75 rfl rfl (by kernel_rfl) (by kernel_rfl) (by kernel_rfl) rfl (by assumption) ?_
              simp only [Act.put, List.setIfInBounds_toArray, List.set_cons_zero, List.set_cons_succ]
              refine takeNot 16 76 rfl rfl (by kernel_rfl) (by kernel_rfl) (by kernel_rfl) rfl (by assumption) ?_
              simp only [Act.put, List.setIfInBounds_toArray, List.set_cons_zero, List.set_cons_succ]
              refine takeNot 17 77 rfl rfl (by kernel_rfl) (by kernel_rfl) (by kernel_rfl) rfl (by assumption) ?_
              simp only [Act.put, List.setIfInBounds_toArray, List.set_cons_zero, List.set_cons_succ]
              refine takeNot 18 78 rfl rfl (by kernel_rfl) (by kernel_rfl) (by kernel_rfl) rfl (by assumption) ?_
              simp only [Act.put, List.setIfInBounds_toArray, List.set_cons_zero, List.set_cons_succ]
              refine takeNot 19 79 rfl rfl (by kernel_rfl) (by kernel_rfl) (by kernel_rfl) rfl (by assumption) ?_
              simp only [Act.put, List.setIfInBounds_toArray, List.set_cons_zero, List.set_cons_succ]
              refine takeNot 20 80 rfl rfl (by kernel_rfl) (by kernel_rfl) (by kernel_rfl) rfl (by assumption) ?_
              simp only [Act.put, List.setIfInBounds_toArray, List.set_cons_zero, List.set_cons_succ]
              refine takeNot 21 81 rfl rfl (by kernel_rfl) (by kernel_rfl) (by kernel_rfl) rfl (by assumption) ?_
              simp only [Act.put, List.setIfInBounds_toArray, List.set_cons_zero, List.set_cons_succ]
              refine takeNot 22 82 rfl rfl (by kernel_rfl) (by kernel_rfl) (by kernel_rfl) rfl (by assumption) ?_
              simp only [Act.put, List.setIfInBounds_toArray, List.set_cons_zero, List.set_cons_succ]
              refine take 23 83 (v := .bool false) rfl rfl (by kernel_rfl) (by kernel_rfl) (by kernel_rfl) rfl (fun W hW => rfl) (by assumption) ?_
              simp only [Act.put, List.setIfInBounds_toArray, List.set_cons_zero, List.set_cons_succ]
              refine take 24 84 (v := .bool false) rfl rfl (by kernel_rfl) (by kernel_rfl) (by kernel_rfl) rfl (fun W hW => rfl) (by assumption) ?_
              simp only [Act.put, List.setIfInBounds_toArray, List.set_cons_zero, List.set_cons_succ]
              refine done (by kernel_rfl) ?_ _
              have hr : risesB (ks.take (j + 1)) = true := by
                have e : ks.take j = [] := by rw [hj0]; rfl
                rw [htk, e]; rfl
              have HN := Lib.hid (show KeysOk (ks.take (j + 1)) from And.intro hall hr)
              have HT0 := Lib.hid hU.box
              have px4 := cellOf (o := 4) hU.box.1 rfl
              clear hU hcu htk hall hno hr q0 HQ
              go_wp2
              go_roundw
              case rel => exact ⟨j + 1, hlt1, by go_num, HN, HT0⟩
              case measure => simp [intOf]; omega
            · obtain ⟨m, hm⟩ : ∃ m, j = m + 1 := ⟨j - 1, by omega⟩
              have hmn : m < ks.length := by omega
              obtain ⟨bk', ok', hp', q1, _⟩ := (HK.out.1.below HT.out.2).get hmn
              cases hp'
              have hgt : ∀ W : World, (binOp .gtr 3 (.int .i64 (j : Int)) (.int .i64 0)).run Tryz.prog W = .ok (.bool true) W := by
                intro W; simp [go_sem]; omega
              have hsub : ∀ W : World, (binOp .sub 3 (.int .i64 (j : Int)) (.int .i64 1)).run Tryz.prog W = .ok (.int .i64 (m : Int)) W := by
                intro W
                have e : IntKind.i64.wrap ((j : Int) - 1) = m := by simp [IntKind.wrap, IntKind.signed, IntKind.bits]; omega
                simp [go_sem, e]
              have hU : KeyU w #[.int .i64 k, .bool b, .int .i64 n, .string (strB t), .slice (some ⟨bk, ok, none⟩) ks.length ck, .slice pl l.length cl] bk (ok + m) (ok + j) ks[m] ks[j] wr.drew := ⟨HT.out.below (Below.refl _ _).drew, q1, q0⟩
              have hrs : risesB (ks.take (j + 1)) = (risesB (ks.take j) && ltB ks[m] ks[j]) := by
                have h1 := risesB_step (l := ks) (j := m) (by omega)
                have e3 : ks[m + 1]'(by omega) = ks[j] := by simp only [hm]
                rw [show ks.take (j + 1) = ks.take (m + 2) by rw [hm], h1, e3, show ks.take (m + 1) = ks.take j by rw [hm]]
              cases hlb : ltB ks[m] ks[j] with
              | false =>
                have hge : ∀ W : World, (binOp .geq 9 (.string (strB ks[m])) (.string (strB ks[j]))).run Tryz.prog W = .ok (.bool true) W := fun W => by rw [geq_str, hlb]; rfl
                refine plain_region_draws (fun W => KeyU w #[.int .i64 k, .bool b, .int .i64 n, .string (strB t), .slice (some ⟨bk, ok, none⟩) ks.length ck, .slice pl l.length cl] bk (ok + m) (ok + j) ks[m] ks[j] W) (by kernel_rfl) hU (fun hU => ?_)
                refine take 0 60 (v := .pointer (some ⟨w.heap.size, 4, none⟩)) rfl rfl (by kernel_rfl) (by kernel_rfl) (by kernel_rfl) rfl (fun W hW => exec_fieldAddr rfl rfl (fa_value _ _ (by decide) W)) (by assumption) ?_
                simp only [Act.put, List.setIfInBounds_toArray, List.set_cons_zero, List.set_cons_succ]
                refine take 1 61 (v := .slice (some ⟨bk, ok, none⟩) ks.length ck) rfl rfl (by kernel_rfl) (by kernel_rfl) (by kernel_rfl) rfl (fun W hW => exec_load rfl rfl (run_load1 (w := W) Tryz.underlying23 rfl (cellOf hW.box.1 rfl))) (by assumption) ?_
                simp only [Act.put, List.setIfInBounds_toArray, List.set_cons_zero, List.set_cons_succ]
                refine take 2 62 (v := .int .i64 (j : Int)) rfl rfl (by kernel_rfl) (by kernel_rfl) (by kernel_rfl) rfl (fun W hW => exec_move rfl rfl) (by assumption) ?_
                simp only [Act.put, List.setIfInBounds_toArray, List.set_cons_zero, List.set_cons_succ]
                refine take 3 63 (v := .pointer (some ⟨bk, ok + j, none⟩)) rfl rfl (by kernel_rfl) (by kernel_rfl) (by kernel_rfl) rfl (fun W hW => exec_indexAddr rfl rfl rfl (ia_keys _ _ _ _ _ hlt W)) (by assumption) ?_
                simp only [Act.put, List.setIfInBounds_toArray, List.set_cons_zero, List.set_cons_succ]
                refine take 4 64 (v := .string (strB ks[j])) rfl rfl (by kernel_rfl) (by kernel_rfl) (by kernel_rfl) rfl (fun W hW => exec_load rfl rfl (run_load1 (w := W) Tryz.underlying9 rfl hW.two)) (by assumption) ?_
                simp only [Act.put, List.setIfInBounds_toArray, List.set_cons_zero, List.set_cons_succ]
                refine onlyCall 5 65 rfl rfl (by kernel_rfl) rfl (exec_call [.string (strB ks[j])] rfl rfl Tryz.func30 (by kernel_rfl) (by kernel_rfl)) ?_
                refine (hcu _).mono ?_
                rintro e w' ⟨rfl, rfl⟩
                refine ⟨_, rfl, .inr (by assumption), ?_⟩
                simp only [Act.put, List.setIfInBounds_toArray, List.set_cons_zero, List.set_cons_succ]
                refine take 6 66 (v := .bool false) rfl rfl (by kernel_rfl) (by kernel_rfl) (by kernel_rfl) rfl (fun W hW => exec_unot (b := true) rfl rfl) (by assumption) ?_
                simp only [Act.put, List.setIfInBounds_toArray, List.set_cons_zero, List.set_cons_succ]
                refine take 7 67 (v := .bool false) rfl rfl (by kernel_rfl) (by kernel_rfl) (by kernel_rfl) rfl (fun W hW => exec_move rfl rfl) (by assumption) ?_
                simp only [Act.put, List.setIfInBounds_toArray, List.set_cons_zero, List.set_cons_succ]
                refine take 8 68 (v := .int .i64 (j : Int)) rfl rfl (by kernel_rfl) (by kernel_rfl) (by kernel_rfl) rfl (fun W hW => exec_move rfl rfl) (by assumption) ?_
                simp only [Act.put, List.setIfInBounds_toArray, List.set_cons_zero, List.set_cons_succ]
                refine take 9 69 (v := .bool true) rfl rfl (by kernel_rfl) (by kernel_rfl) (by kernel_rfl) rfl (fun W hW => exec_bini rfl rfl rfl (hgt W)) (by assumption) ?_
                simp only [Act.put, List.setIfInBounds_toArray, List.set_cons_zero, List.set_cons_succ]
                refine take 10 70 (v := .bool true) rfl rfl (by kernel_rfl) (by kernel_rfl) (by kernel_rfl) rfl (fun W hW => exec_move rfl rfl) (by assumption) ?_
                simp only [Act.put, List.setIfInBounds_toArray, List.set_cons_zero, List.set_cons_succ]
                refine take 11 71 (v := .pointer (some ⟨w.heap.size, 4, none⟩)) rfl rfl (by kernel_rfl) (by kernel_rfl) (by kernel_rfl) rfl (fun W hW => exec_fieldAddr rfl rfl (fa_value _ _ (by decide) W)) (by assumption) ?_
                simp only [Act.put, List.setIfInBounds_toArray, List.set_cons_zero, List.set_cons_succ]
                refine take 12 72 (v := .slice (some ⟨bk, ok, none⟩) ks.length ck) rfl rfl (by kernel_rfl) (by kernel_rfl) (by kernel_rfl) rfl (fun W hW => exec_load rfl rfl (run_load1 (w := W) Tryz.underlying23 rfl (cellOf hW.box.1 rfl))) (by assumption) ?_
                simp only [Act.put, List.setIfInBounds_toArray, List.set_cons_zero, List.set_cons_succ]
                refine take 13 73 (v := .int .i64 (j : Int)) rfl rfl (by kernel_rfl) (by kernel_rfl) (by kernel_rfl) rfl (fun W hW => exec_move rfl rfl) (by assumption) ?_
                simp only [Act.put, List.setIfInBounds_toArray, List.set_cons_zero, List.set_cons_succ]
                refine take 14 74 (v := .int .i64 (m : Int)) rfl rfl (by kernel_rfl) (by kernel_rfl) (by kernel_rfl) rfl (fun W hW => exec_bini rfl rfl rfl (hsub W)) (by assumption) ?_
                simp only [Act.put, List.setIfInBounds_toArray, List.set_cons_zero, List.set_cons_succ]
                refine take 15 75 (v := .pointer (some ⟨bk, ok + m, none⟩)) rfl rfl (by kernel_rfl) (by kernel_rfl) (by kernel_rfl) rfl (fun W hW => exec_indexAddr rfl rfl rfl (ia_keys _ _ _ _ _ hmn W)) (by assumption) ?_
                simp only [Act.put, List.setIfInBounds_toArray, List.set_cons_zero, List.set_cons_succ]
                refine take 16 76 (v := .string (strB ks[m])) rfl rfl (by kernel_rfl) (by kernel_rfl) (by kernel_rfl) rfl (fun W hW => exec_load rfl rfl (run_load1 (w := W) Tryz.underlying9 rfl hW.one)) (by assumption) ?_
                simp only [Act.put, List.setIfInBounds_toArray, List.set_cons_zero, List.set_cons_succ]
                refine take 17 77 (v := .pointer (some ⟨w.heap.size, 4, none⟩)) rfl rfl (by kernel_rfl) (by kernel_rfl) (by kernel_rfl) rfl (fun W hW => exec_fieldAddr rfl rfl (fa_value _ _ (by decide) W)) (by assumption) ?_
                simp only [Act.put, List.setIfInBounds_toArray, List.set_cons_zero, List.set_cons_succ]
                refine take 18 78 (v := .slice (some ⟨bk, ok, none⟩) ks.length ck) rfl rfl (by kernel_rfl) (by kernel_rfl) (by kernel_rfl) rfl (fun W hW => exec_load rfl rfl (run_load1 (w := W) Tryz.underlying23 rfl (cellOf hW.box.1 rfl))) (by assumption) ?_
                simp only [Act.put, List.setIfInBounds_toArray, List.set_cons_zero, List.set_cons_succ]
                refine take 19 79 (v := .int .i64 (j : Int)) rfl rfl (by kernel_rfl) (by kernel_rfl) (by kernel_rfl) rfl (fun W hW => exec_move rfl rfl) (by assumption) ?_
                simp only [Act.put, List.setIfInBounds_toArray, List.set_cons_zero, List.set_cons_succ]
                refine take 20 80 (v := .pointer (some ⟨bk, ok + j, none⟩)) rfl rfl (by kernel_rfl) (by kernel_rfl) (by kernel_rfl) rfl (fun W hW => exec_indexAddr rfl rfl rfl (ia_keys _ _ _ _ _ hlt W)) (by assumption) ?_
                simp only [Act.put, List.setIfInBounds_toArray, List.set_cons_zero, List.set_cons_succ]
                refine take 21 81 (v := .string (strB ks[j])) rfl rfl (by kernel_rfl) (by kernel_rfl) (by kernel_rfl) rfl (fun W hW => exec_load rfl rfl (run_load1 (w := W) Tryz.underlying9 rfl hW.two)) (by assumption) ?_
                simp only [Act.put, List.setIfInBounds_toArray, List.set_cons_zero, List.set_cons_succ]
                refine take 22 82 (v := .bool true) rfl rfl (by kernel_rfl) (by kernel_rfl) (by kernel_rfl) rfl (fun W hW => exec_bins rfl rfl rfl (hge W)) (by assumption) ?_
                simp only [Act.put, List.setIfInBounds_toArray, List.set_cons_zero, List.set_cons_succ]
                refine take 23 83 (v := .bool true) rfl rfl (by kernel_rfl) (by kernel_rfl) (by kernel_rfl) rfl (fun W hW => rfl) (by assumption) ?_
                simp only [Act.put, List.setIfInBounds_toArray, List.set_cons_zero, List.set_cons_succ]
                refine take 24 84 (v := .bool true) rfl rfl (by kernel_rfl) (by kernel_rfl) (by kernel_rfl) rfl (fun W hW => rfl) (by assumption) ?_
                simp only [Act.put, List.setIfInBounds_toArray, List.set_cons_zero, List.set_cons_succ]
                refine done (by kernel_rfl) ?_ _
                have hrf : risesB ks = false := by
                  cases hrb : risesB ks with
                  | false => rfl
                  | true =>
                    have := risesB_take hrb (j + 1) hlt1
                    rw [hrs, hlb] at this
                    simp at this
                go_wp2
                go_ret
                exact ⟨ret_bool (by rw [hrf]; simp), hU.box.2⟩
              | true =>
                have hge : ∀ W : World, (binOp .geq 9 (.string (strB ks[m])) (.string (strB ks[j]))).run Tryz.prog W = .ok (.bool false) W := fun W => by rw [geq_str, hlb]; rfl
                refine plain_region_draws (fun W => KeyU w #[.int .i64 k, .bool b, .int .i64 n, .string (strB t), .slice (some ⟨bk, ok, none⟩) ks.length ck, .slice pl l.length cl] bk (ok + m) (ok + j) ks[m] ks[j] W) (by kernel_rfl) hU (fun hU => ?_)
                refine take 0 60 (v := .pointer (some ⟨w.heap.size, 4, none⟩)) rfl rfl (by kernel_rfl) (by kernel_rfl) (by kernel_rfl) rfl (fun W hW => exec_fieldAddr rfl rfl (fa_value _ _ (by decide) W)) (by assumption) ?_
                simp only [Act.put, List.setIfInBounds_toArray, List.set_cons_zero, List.set_cons_succ]
                refine take 1 61 (v := .slice (some ⟨bk, ok, none⟩) ks.length ck) rfl rfl (by kernel_rfl) (by kernel_rfl) (by kernel_rfl) rfl (fun W hW => exec_load rfl rfl (run_load1 (w := W) Tryz.underlying23 rfl (cellOf hW.box.1 rfl))) (by assumption) ?_
                simp only [Act.put, List.setIfInBounds_toArray, List.set_cons_zero, List.set_cons_succ]
                refine take 2 62 (v := .int .i64 (j : Int)) rfl rfl (by kernel_rfl) (by kernel_rfl) (by kernel_rfl) rfl (fun W hW => exec_move rfl rfl) (by assumption) ?_
                simp only [Act.put, List.setIfInBounds_toArray, List.set_cons_zero, List.set_cons_succ]
                refine take 3 63 (v := .pointer (some ⟨bk, ok + j, none⟩)) rfl rfl (by kernel_rfl) (by kernel_rfl) (by kernel_rfl) rfl (fun W hW => exec_indexAddr rfl rfl rfl (ia_keys _ _ _ _ _ hlt W)) (by assumption) ?_
                simp only [Act.put, List.setIfInBounds_toArray, List.set_cons_zero, List.set_cons_succ]
                refine take 4 64 (v := .string (strB ks[j])) rfl rfl (by kernel_rfl) (by kernel_rfl) (by kernel_rfl) rfl (fun W hW => exec_load rfl rfl (run_load1 (w := W) Tryz.underlying9 rfl hW.two)) (by assumption) ?_
                simp only [Act.put, List.setIfInBounds_toArray, List.set_cons_zero, List.set_cons_succ]
                refine onlyCall 5 65 rfl rfl (by kernel_rfl) rfl (exec_call [.string (strB ks[j])] rfl rfl Tryz.func30 (by kernel_rfl) (by kernel_rfl)) ?_
                refine (hcu _).mono ?_
                rintro e w' ⟨rfl, rfl⟩
                refine ⟨_, rfl, .inr (by assumption), ?_⟩
                simp only [Act.put, List.setIfInBounds_toArray, List.set_cons_zero, List.set_cons_succ]
                refine take 6 66 (v := .bool false) rfl rfl (by kernel_rfl) (by kernel_rfl) (by kernel_rfl) rfl (fun W hW => exec_unot (b := true) rfl rfl) (by assumption) ?_
                simp only [Act.put, List.setIfInBounds_toArray, List.set_cons_zero, List.set_cons_succ]
                refine take 7 67 (v := .bool false) rfl rfl (by kernel_rfl) (by kernel_rfl) (by kernel_rfl) rfl (fun W hW => exec_move rfl rfl) (by assumption) ?_
                simp only [Act.put, List.setIfInBounds_toArray, List.set_cons_zero, List.set_cons_succ]
                refine take 8 68 (v := .int .i64 (j : Int)) rfl rfl (by kernel_rfl) (by kernel_rfl) (by kernel_rfl) rfl (fun W hW => exec_move rfl rfl) (by assumption) ?_
                simp only [Act.put, List.setIfInBounds_toArray, List.set_cons_zero, List.set_cons_succ]
                refine take 9 69 (v := .bool true) rfl rfl (by kernel_rfl) (by kernel_rfl) (by kernel_rfl) rfl (fun W hW => exec_bini rfl rfl rfl (hgt W)) (by assumption) ?_
                simp only [Act.put, List.setIfInBounds_toArray, List.set_cons_zero, List.set_cons_succ]
                refine take 10 70 (v := .bool true) rfl rfl (by kernel_rfl) (by kernel_rfl) (by kernel_rfl) rfl (fun W hW => exec_move rfl rfl) (by assumption) ?_
                simp only [Act.put, List.setIfInBounds_toArray, List.set_cons_zero, List.set_cons_succ]
                refine take 11 71 (v := .pointer (some ⟨w.heap.size, 4, none⟩)) rfl rfl (by kernel_rfl) (by kernel_rfl) (by kernel_rfl) rfl (fun W hW => exec_fieldAddr rfl rfl (fa_value _ _ (by decide) W)) (by assumption) ?_
                simp only [Act.put, List.setIfInBounds_toArray, List.set_cons_zero, List.set_cons_succ]
                refine take 12 72 (v := .slice (some ⟨bk, ok, none⟩) ks.length ck) rfl rfl (by kernel_rfl) (by kernel_rfl) (by kernel_rfl) rfl (fun W hW => exec_load rfl rfl (run_load1 (w := W) Tryz.underlying23 rfl (cellOf hW.box.1 rfl))) (by assumption) ?_
                simp only [Act.put, List.setIfInBounds_toArray, List.set_cons_zero, List.set_cons_succ]
                refine take 13 73 (v := .int .i64 (j : Int)) rfl rfl (by kernel_rfl) (by kernel_rfl) (by kernel_rfl) rfl (fun W hW => exec_move rfl rfl) (by assumption) ?_
                simp only [Act.put, List.setIfInBounds_toArray, List.set_cons_zero, List.set_cons_succ]
                refine take 14 74 (v := .int .i64 (m : Int)) rfl rfl (by kernel_rfl) (by kernel_rfl) (by kernel_rfl) rfl (fun W hW => exec_bini rfl rfl rfl (hsub W)) (by assumption) ?_
                simp only [Act.put, List.setIfInBounds_toArray, List.set_cons_zero, List.set_cons_succ]
                refine take 15 75 (v := .pointer (some ⟨bk, ok + m, none⟩)) rfl rfl (by kernel_rfl) (by kernel_rfl) (by kernel_rfl) rfl (fun W hW => exec_indexAddr rfl rfl rfl (ia_keys _ _ _ _ _ hmn W)) (by assumption) ?_
                simp only [Act.put, List.setIfInBounds_toArray, List.set_cons_zero, List.set_cons_succ]
                refine take 16 76 (v := .string (strB ks[m])) rfl rfl (by kernel_rfl) (by kernel_rfl) (by kernel_rfl) rfl (fun W hW => exec_load rfl rfl (run_load1 (w := W) Tryz.underlying9 rfl hW.one)) (by assumption) ?_
                simp only [Act.put, List.setIfInBounds_toArray, List.set_cons_zero, List.set_cons_succ]
                refine take 17 77 (v := .pointer (some ⟨w.heap.size, 4, none⟩)) rfl rfl (by kernel_rfl) (by kernel_rfl) (by kernel_rfl) rfl (fun W hW => exec_fieldAddr rfl rfl (fa_value _ _ (by decide) W)) (by assumption) ?_
                simp only [Act.put, List.setIfInBounds_toArray, List.set_cons_zero, List.set_cons_succ]
                refine take 18 78 (v := .slice (some ⟨bk, ok, none⟩) ks.length ck) rfl rfl (by kernel_rfl) (by kernel_rfl) (by kernel_rfl) rfl (fun W hW => exec_load rfl rfl (run_load1 (w := W) Tryz.underlying23 rfl (cellOf hW.box.1 rfl))) (by assumption) ?_
                simp only [Act.put, List.setIfInBounds_toArray, List.set_cons_zero, List.set_cons_succ]
                refine take 19 79 (v := .int .i64 (j : Int)) rfl rfl (by kernel_rfl) (by kernel_rfl) (by kernel_rfl) rfl (fun W hW => exec_move rfl rfl) (by assumption) ?_
                simp only [Act.put, List.setIfInBounds_toArray, List.set_cons_zero, List.set_cons_succ]
                refine take 20 80 (v := .pointer (some ⟨bk, ok + j, none⟩)) rfl rfl (by kernel_rfl) (by kernel_rfl) (by kernel_rfl) rfl (fun W hW => exec_indexAddr rfl rfl rfl (ia_keys _ _ _ _ _ hlt W)) (by assumption) ?_
                simp only [Act.put, List.setIfInBounds_toArray, List.set_cons_zero, List.set_cons_succ]
                refine take 21 81 (v := .string (strB ks[j])) rfl rfl (by kernel_rfl) (by kernel_rfl) (by kernel_rfl) rfl (fun W hW => exec_load rfl rfl (run_load1 (w := W) Tryz.underlying9 rfl hW.two)) (by assumption) ?_
                simp only [Act.put, List.setIfInBounds_toArray, List.set_cons_zero, List.set_cons_succ]
                refine take 22 82 (v := .bool false) rfl rfl (by kernel_rfl) (by kernel_rfl) (by kernel_rfl) rfl (fun W hW => exec_bins rfl rfl rfl (hge W)) (by assumption) ?_
                simp only [Act.put, List.setIfInBounds_toArray, List.set_cons_zero, List.set_cons_succ]
                refine take 23 83 (v := .bool false) rfl rfl (by kernel_rfl) (by kernel_rfl) (by kernel_rfl) rfl (fun W hW => rfl) (by assumption) ?_
                simp only [Act.put, List.setIfInBounds_toArray, List.set_cons_zero, List.set_cons_succ]
                refine take 24 84 (v := .bool false) rfl rfl (by kernel_rfl) (by kernel_rfl) (by kernel_rfl) rfl (fun W hW => rfl) (by assumption) ?_
                simp only [Act.put, List.setIfInBounds_toArray, List.set_cons_zero, List.set_cons_succ]
                refine done (by kernel_rfl) ?_ _
                have hr : risesB (ks.take (j + 1)) = true := by rw [hrs, hlb, HQ.out.2]; rfl
                have HN := Lib.hid (show KeysOk (ks.take (j + 1)) from And.intro hall hr)
                have HT0 := Lib.hid hU.box
                have px4 := cellOf (o := 4) hU.box.1 rfl
                clear hU hcu htk hall hno hr q0 q1 HQ hrs hm hsub hgt hge
                go_wp2
                go_roundw
                case rel => exact ⟨j + 1, hlt1, by go_num, HN, HT0⟩
                case measure => simp [intOf]; omega
        · obtain rfl : j = ks.length := by omega
          have hR := HQ.out
          rw [List.take_length] at hR
          have HR := Lib.hid hR
          have HT0 := HT
          clear hT1 hR HQ
          go_wp2
          go_loopw [4] (fun i W => ∃ j : Nat, j ≤ l.length ∧ i = .int .i64 (j : Int) ∧ Hid (ValsOk (l.take j)) ∧ Hid (OneB w W #[.int .i64 k, .bool b, .int .i64 n, .string (strB t), .slice pk ks.length ck, .slice pl l.length cl])) (fun i _ => l.length - (intOf i).toNat)
          case atStart => exact ⟨0, Nat.zero_le _, rfl, Lib.hid rfl, HT0⟩
          case round =>
            clear HT HT0 px0 px1 px2 px3 px4 px5
            obtain ⟨j, hj, rfl, HQ, HT⟩ := hrel
            have hT1 := HT.out
            have px0 := cellOf (o := 0) hT1.1 rfl; have px1 := cellOf (o := 1) hT1.1 rfl; have px2 := cellOf (o := 2) hT1.1 rfl; have px3 := cellOf (o := 3) hT1.1 rfl; have px4 := cellOf (o := 4) hT1.1 rfl; have px5 := cellOf (o := 5) hT1.1 rfl
            by_cases hlt : j < l.length
            · have hlt1 : j + 1 ≤ l.length := hlt
              obtain ⟨g1, o1, pk1, ck1, pl1, cl1, rfl, ⟨a0, a1, a2, a3, a4, a5⟩, hv1⟩ := (HK.out.2.1.below hT1.2).at hlt
              have hcall := HK.out.2.2 l[j] (List.getElem_mem hlt) _ _ hv1
              have htk : (l.take (j + 1)).all (mayV Lib.validD) = mayV Lib.validD l[j] := by
                have hq : (l.take j).all (mayV Lib.validD) = true := HQ.out
                rw [List.take_succ_eq_append_getElem hlt, List.all_append, hq]; simp
              have hno : mayV Lib.validD l[j] = false → l.all (mayV Lib.validD) = false := fun h => List.all_eq_false.2 ⟨l[j], List.getElem_mem hlt, by rw [h]; simp⟩
              generalize mayV Lib.validD l[j] = on at *
              generalize l[j] = s1 at *
              have hok : on = true → ValsOk (l.take (j + 1)) := fun h => htk.trans h
              have hnok : on = false → l.all (mayV Lib.validD) = false := hno
              cases on with
              | true =>
                have hv := hok rfl
                have HD := Lib.hid (And.intro hcall (And.intro hv hT1))
                clear hcall htk hno hv1 hT1 hok hnok hv
                go_wp2_with (go_at_call 68
                             (
                               refine HD.out.1.mono ?_
                               rintro e w3 ⟨rfl, hb3⟩
                               have HG := Lib.hid (HD.out.2.2.below hb3)
                               clear hb3))
                go_roundw
                case rel => exact ⟨j + 1, hlt1, by go_num, Lib.hid HD.out.2.1, HG⟩
                case measure => simp [intOf]; omega
              | false =>
                have hv := MayNo.mk (hnok rfl)
                have HD := Lib.hid (And.intro hcall (And.intro hv hT1))
                clear hcall htk hno hv1 hT1 hok hnok hv
                go_wp2_with (go_at_call 68
                             (
                               refine HD.out.1.mono ?_
                               rintro e w3 ⟨rfl, hb3⟩
                               have HG := Lib.hid (HD.out.2.2.below hb3)
                               clear hb3))
                go_ret
                exact ⟨ret_bool (by rw [HD.out.2.1.no]; simp), HG.out.2⟩
            · obtain rfl : j = l.length := by omega
              have hQ := HQ.out
              rw [List.take_length] at hQ
              have HQ2 := Lib.hid hQ
              clear hT1 hQ
              go_wp2
              go_ret
              exact ⟨ret_bool (by rw [HR.out.1, HR.out.2, HQ2.out]; rfl), HT.out.2⟩
end Go.Proofs.YtnkaegdnjfpliaaGreatDoor
