/- Texts that the proof shares (each declaration is a lemma of this layer). -/
import Derived.Test.YtihfnegakcghiaaGreatDoorZGchecksb
import Derived.Test.YtihfnegakcghiaaGreatDoorZGchecksc
import Derived.Test.YtihfnegakcghiaaGreatDoorZGchecksd
set_option linter.unusedSimpArgs false
set_option linter.unusedVariables false
set_option linter.unnecessarySimpa false
set_option maxRecDepth 100000
set_option maxHeartbeats 64000000
namespace Go.Proofs.YtihfnegakcghiaaGreatDoor
open Go.RowKit
theorem fa_pr0 (b o : Nat) (W : World) : (Instr.fieldAt 47 (.pointer (some ⟨b, o, none⟩)) 0).run Tryz.prog W = .ok (.pointer (some ⟨b, o, none⟩)) W := by simp [go_sem]
theorem fa_pr1 (b o : Nat) (W : World) : (Instr.fieldAt 47 (.pointer (some ⟨b, o, none⟩)) 1).run Tryz.prog W = .ok (.pointer (some ⟨b, o + 1, none⟩)) W := by simp [go_sem]
theorem ia_prop {b o n len c : Nat} (h : n < len) (W : World) : (Instr.indexAt 27 (.slice (some ⟨b, o, none⟩) len c) (.int .i64 (n : Int))).run Tryz.prog W = .ok (.pointer (some ⟨b, o + n * 7, none⟩)) W := by simp [go_sem, h]
theorem ia_node {b o n len c : Nat} (h : n < len) (W : World) : (Instr.indexAt 22 (.slice (some ⟨b, o, none⟩) len c) (.int .i64 (n : Int))).run Tryz.prog W = .ok (.pointer (some ⟨b, o + n * 3, none⟩)) W := by simp [go_sem, h]
theorem ia_rel {b o n len c : Nat} (h : n < len) (W : World) : (Instr.indexAt 23 (.slice (some ⟨b, o, none⟩) len c) (.int .i64 (n : Int))).run Tryz.prog W = .ok (.pointer (some ⟨b, o + n * 5, none⟩)) W := by simp [go_sem, h]
theorem sub_nat {j : Nat} (h0 : 0 < j) (hj : j ≤ 140737488355328) (W : World) : (binOp .sub 3 (.int .i64 (j : Int)) (.int .i64 1)).run Tryz.prog W = .ok (.int .i64 ((j - 1 : Nat) : Int)) W := by
  have e1 : (j : Int) = ((j - 1 : Nat) : Int) + 1 := by omega
  rw [e1]
  exact sub_one (by omega) W
theorem gtr_nat {j : Nat} (W : World) : (binOp .gtr 3 (.int .i64 (j : Int)) (.int .i64 0)).run Tryz.prog W = .ok (.bool (decide (0 < j))) W := by
  have e : decide ((0 : Int) < (j : Int)) = decide (0 < j) := by rw [Bool.eq_iff_iff]; simp
  simp [go_sem]
theorem prop_cells {w : World} {b o : Nat} {p : PropD} {cs : Array Value} (hv : PRd w p cs) (hc : ∀ (i : Nat) (u : Value), cs[i]? = some u → w.cell? ⟨b, o + i, none⟩ = some u) :
    w.cell? ⟨b, o, none⟩ = some (.string (strB p.key)) ∧ p.key.length ≤ 140737488355328 ∧ ∃ y, VRd w p.val y ∧ ∀ (i : Nat) (u : Value), y[i]? = some u → w.cell? ⟨b, o + 1 + i, none⟩ = some u := by
  obtain ⟨y, rfl, h1, h2⟩ := hv
  refine ⟨hc 0 _ (by rw [Array.getElem?_append_left (by simp)]; rfl), h1, y, h2, fun i u hu => ?_⟩
  have := hc (1 + i) u (by rw [Array.getElem?_append_right (by simp)]; simpa using hu)
  rw [← Nat.add_assoc] at this
  exact this
theorem refprops_any {w : World} {p : Option Addr} {c : Nat} {l : List PropD} (h : GRd PRd 7 w p c l) (ht : ∀ x ∈ l, totV x.val ≤ 1099511627776) : Calls Tryz.prog 34 #[.slice p l.length c] w fun e w' => e = .returned (.bool (okPs l)) ∧ Below w.heap.size w w' := by
  have z1 : (l.length : Int) ≤ 140737488355328 := by have := h.1.2.1; omega
  have H := Lib.hid (And.intro h ht)
  clear h ht
  go_enter Tryz.func34, Tryz.ntmps34
  go_wp2
  go_loopw [3] (fun i W => ∃ j : Nat, j ≤ l.length ∧ i = .int .i64 (j : Int) ∧ Hid ((l.take j).all okP = true ∧ risesB ((l.map PropD.key).take j) = true ∧ Below w.heap.size w W)) (fun i _ => l.length - (intOf i).toNat)
  case atStart => exact ⟨0, Nat.zero_le _, rfl, Lib.hid ⟨by simp, by simp [risesB], Below.refl _ _⟩⟩
  case round =>
    obtain ⟨j, hj, rfl, HI⟩ := hrel
    by_cases hlt : j < l.length
    · have hlt1 : j + 1 ≤ l.length := hlt
      have hRw := H.out.1.below (fun h => h.below HI.out.2.2) HI.out.2.2
      have htv := H.out.2 l[j] (List.getElem_mem hlt)
      obtain ⟨bk, ok, cs, rfl, hcs, hcc, hv⟩ := hRw.get hlt
      obtain ⟨q1, hl1, y1, hv1, r1⟩ := prop_cells hv hcc
      have hy1 := ef_val.size hv1
      have hi1 : ∀ W' : World, (Instr.indexAt 27 (.slice (some ⟨bk, ok, none⟩) l.length c) (.int .i64 (j : Int))).run Tryz.prog W' = .ok (.pointer (some ⟨bk, ok + j * 7, none⟩)) W' := fun W' => ia_prop hlt W'
      have hall := all_snoc (f := okP) hlt HI.out.1
      have hno := okPs_no hlt
      have hop : okP l[j] = (okNm l[j].key && okSt l[j].val) := rfl
      rw [hop] at hall hno
      have hnm := fun W => refname_any (w := W) l[j].key hl1
      have hst := fun W (g : Below wr.heap.size wr W) => refstor_any (w := W) (hv1.below g) htv
      have hB0 : Below wr.heap.size wr wr.drew := (Below.refl _ wr).drew
      have hk1 : (l.map PropD.key)[j]'(by simpa using hlt) = l[j].key := List.getElem_map ..
      have hnr := fun (h0 : 0 < j) (h : ltB (l[j - 1]'(by omega)).key l[j].key = false) => risesB_no (l := l.map PropD.key) h0 (by simpa using hlt) (by rw [List.getElem_map, List.getElem_map]; exact h)
      have hmr := fun (h0 : 0 < j) (h : ltB (l[j - 1]'(by omega)).key l[j].key = true) => risesB_more (l := l.map PropD.key) h0 (by simpa using hlt) HI.out.2.1 (by rw [List.getElem_map, List.getElem_map]; exact h)
      clear hcs hcc hv hk1 hop
      cases hok : okNm l[j].key with
      | false =>
        have HF := Lib.hid (And.intro (hno (by rw [hok]; rfl)) HI.out.2.2)
        simp only [hok] at hnm
        clear hnr hmr
        generalize l[j].key = s1 at *
        have HX := Lib.hid (And.intro hi1 (And.intro q1 (And.intro hnm hB0)))
        clear hi1 q1 hnm hB0 hall hno hRw HI hst hv1 r1 htv
        go_wp2
        obtain ⟨hi1, q1, hnm, hB0⟩ := HX.out
        refine plain_region_draws (fun W => Below wr.heap.size wr W) (by kernel_rfl) hB0 (fun hS => ?_)
        refine tk 0 10 (v := .slice (some ⟨bk, ok, none⟩) l.length c) rfl rfl (fun W hW => exec_move rfl rfl) ?_
        simp only [Act.put, sA, sZ, sS]
        refine tk 1 11 (v := .int .i64 (j : Int)) rfl rfl (fun W hW => exec_move rfl rfl) ?_
        simp only [Act.put, sA, sZ, sS]
        refine tk 2 12 (v := .pointer (some ⟨bk, ok + j * 7, none⟩)) rfl rfl (fun W hW => exec_indexAddr rfl rfl rfl (hi1 W)) ?_
        simp only [Act.put, sA, sZ, sS]
        refine tk 3 13 (v := .pointer (some ⟨bk, ok + j * 7, none⟩)) rfl rfl (fun W hW => exec_fieldAddr rfl rfl (fa_pr0 _ _ W)) ?_
        simp only [Act.put, sA, sZ, sS]
        refine tk 4 14 (v := .string (strB s1)) rfl rfl (fun W hW => exec_load rfl rfl (run_load1 (w := W) Tryz.underlying9 rfl (belowCell hW (ltOf q1) q1))) ?_
        simp only [Act.put, sA, sZ, sS]
        refine onlyCall 5 15 rfl rfl (by kernel_rfl) rfl (exec_call [.string (strB s1)] rfl rfl Tryz.func35 (by kernel_rfl) (by kernel_rfl)) ?_
        refine (hnm _).mono ?_
        rintro e W5 ⟨rfl, rfl⟩
        have hS5 := hS
        refine ⟨_, rfl, .inr hS5, ?_⟩
        simp only [Act.put, sA, sZ, sS]
        refine tk 6 16 (v := .bool true) rfl rfl (fun W hW => exec_unot (b := false) rfl rfl) ?_
        simp only [Act.put, sA, sZ, sS]
        refine tk 7 17 (v := .bool true) rfl rfl (fun W hW => exec_move rfl rfl) ?_
        simp only [Act.put, sA, sZ, sS]
        refine tn 8 18 rfl rfl ?_
        simp only [Act.put, sA, sZ, sS]
        refine tn 9 19 rfl rfl ?_
        simp only [Act.put, sA, sZ, sS]
        refine tn 10 20 rfl rfl ?_
        simp only [Act.put, sA, sZ, sS]
        refine tn 11 21 rfl rfl ?_
        simp only [Act.put, sA, sZ, sS]
        refine tn 12 22 rfl rfl ?_
        simp only [Act.put, sA, sZ, sS]
        refine onlyNot 13 23 rfl rfl (by kernel_rfl) rfl ?_ (.inr (by assumption))
        simp only [Act.put, sA, sZ, sS]
        refine tn 14 24 rfl rfl ?_
        simp only [Act.put, sA, sZ, sS]
        refine tk 15 25 (v := .bool true) rfl rfl (fun W hW => rfl) ?_
        simp only [Act.put, sA, sZ, sS]
        refine tk 16 26 (v := .bool true) rfl rfl (fun W hW => exec_move rfl rfl) ?_
        simp only [Act.put, sA, sZ, sS]
        refine tn 17 27 rfl rfl ?_
        simp only [Act.put, sA, sZ, sS]
        refine tn 18 28 rfl rfl ?_
        simp only [Act.put, sA, sZ, sS]
        refine tn 19 29 rfl rfl ?_
        simp only [Act.put, sA, sZ, sS]
        refine tn 20 30 rfl rfl ?_
        simp only [Act.put, sA, sZ, sS]
        refine tn 21 31 rfl rfl ?_
        simp only [Act.put, sA, sZ, sS]
        refine tn 22 32 rfl rfl ?_
        simp only [Act.put, sA, sZ, sS]
        refine tn 23 33 rfl rfl ?_
        simp only [Act.put, sA, sZ, sS]
        refine tn 24 34 rfl rfl ?_
        simp only [Act.put, sA, sZ, sS]
        refine tn 25 35 rfl rfl ?_
        simp only [Act.put, sA, sZ, sS]
        refine tn 26 36 rfl rfl ?_
        simp only [Act.put, sA, sZ, sS]
        refine tn 27 37 rfl rfl ?_
        simp only [Act.put, sA, sZ, sS]
        refine tn 28 38 rfl rfl ?_
        simp only [Act.put, sA, sZ, sS]
        refine tn 29 39 rfl rfl ?_
        simp only [Act.put, sA, sZ, sS]
        refine tn 30 40 rfl rfl ?_
        simp only [Act.put, sA, sZ, sS]
        refine onlyNot 31 41 rfl rfl (by kernel_rfl) rfl ?_ (.inr (by assumption))
        simp only [Act.put, sA, sZ, sS]
        refine tn 32 42 rfl rfl ?_
        simp only [Act.put, sA, sZ, sS]
        refine tn 33 43 rfl rfl ?_
        simp only [Act.put, sA, sZ, sS]
        refine tk 34 44 (v := .bool true) rfl rfl (fun W hW => rfl) ?_
        simp only [Act.put, sA, sZ, sS]
        refine done (by kernel_rfl) ?_ _
        have HB := Lib.hid hS5
        clear hi1 q1 hnm hB0 hS hS5 HX
        go_wp2
        go_ret
        exact ⟨ret_bool HF.out.1.symm, below_trans HF.out.2 HB.out⟩
      | true =>
        simp only [hok] at hnm
        cases hos : okSt l[j].val with
        | false =>
          have HF := Lib.hid (And.intro (hno (by rw [hok, hos]; rfl)) HI.out.2.2)
          simp only [hos] at hst
          clear hnr hmr
          generalize l[j].key = s1 at *
          have HX := Lib.hid (And.intro hi1 (And.intro q1 (And.intro hnm (And.intro hB0 (And.intro hst (And.intro hy1 r1))))))
          clear hi1 q1 hnm hB0 hall hno hRw HI hst hv1 r1 htv hos hy1
          go_wp2
          obtain ⟨hi1, q1, hnm, hB0, hst, hy1, r1⟩ := HX.out
          refine plain_region_draws (fun W => Below wr.heap.size wr W) (by kernel_rfl) hB0 (fun hS => ?_)
          refine tk 0 10 (v := .slice (some ⟨bk, ok, none⟩) l.length c) rfl rfl (fun W hW => exec_move rfl rfl) ?_
          simp only [Act.put, sA, sZ, sS]
          refine tk 1 11 (v := .int .i64 (j : Int)) rfl rfl (fun W hW => exec_move rfl rfl) ?_
          simp only [Act.put, sA, sZ, sS]
          refine tk 2 12 (v := .pointer (some ⟨bk, ok + j * 7, none⟩)) rfl rfl (fun W hW => exec_indexAddr rfl rfl rfl (hi1 W)) ?_
          simp only [Act.put, sA, sZ, sS]
          refine tk 3 13 (v := .pointer (some ⟨bk, ok + j * 7, none⟩)) rfl rfl (fun W hW => exec_fieldAddr rfl rfl (fa_pr0 _ _ W)) ?_
          simp only [Act.put, sA, sZ, sS]
          refine tk 4 14 (v := .string (strB s1)) rfl rfl (fun W hW => exec_load rfl rfl (run_load1 (w := W) Tryz.underlying9 rfl (belowCell hW (ltOf q1) q1))) ?_
          simp only [Act.put, sA, sZ, sS]
          refine onlyCall 5 15 rfl rfl (by kernel_rfl) rfl (exec_call [.string (strB s1)] rfl rfl Tryz.func35 (by kernel_rfl) (by kernel_rfl)) ?_
          refine (hnm _).mono ?_
          rintro e W5 ⟨rfl, rfl⟩
          have hS5 := hS
          refine ⟨_, rfl, .inr hS5, ?_⟩
          simp only [Act.put, sA, sZ, sS]
          refine tk 6 16 (v := .bool false) rfl rfl (fun W hW => exec_unot (b := true) rfl rfl) ?_
          simp only [Act.put, sA, sZ, sS]
          refine tk 7 17 (v := .bool false) rfl rfl (fun W hW => exec_move rfl rfl) ?_
          simp only [Act.put, sA, sZ, sS]
          refine tk 8 18 (v := .slice (some ⟨bk, ok, none⟩) l.length c) rfl rfl (fun W hW => exec_move rfl rfl) ?_
          simp only [Act.put, sA, sZ, sS]
          refine tk 9 19 (v := .int .i64 (j : Int)) rfl rfl (fun W hW => exec_move rfl rfl) ?_
          simp only [Act.put, sA, sZ, sS]
          refine tk 10 20 (v := .pointer (some ⟨bk, ok + j * 7, none⟩)) rfl rfl (fun W hW => exec_indexAddr rfl rfl rfl (hi1 W)) ?_
          simp only [Act.put, sA, sZ, sS]
          refine tk 11 21 (v := .pointer (some ⟨bk, ok + j * 7 + 1, none⟩)) rfl rfl (fun W hW => exec_fieldAddr rfl rfl (fa_pr1 _ _ W)) ?_
          simp only [Act.put, sA, sZ, sS]
          refine tk 12 22 (v := .agg y1) rfl rfl (fun W hW => exec_load rfl rfl (StT.load (P := Tryz.prog) (W := W) st_val hy1 fun i u hu => belowCell hW (ltOf (r1 i u hu)) (r1 i u hu))) ?_
          simp only [Act.put, sA, sZ, sS]
          refine onlyCall 13 23 rfl rfl (by kernel_rfl) rfl (exec_call [.agg y1] rfl rfl Tryz.func94 (by kernel_rfl) (by kernel_rfl)) ?_
          refine (hst _ hS5).mono ?_
          rintro e W13 ⟨rfl, hb13⟩
          have hS13 := below_trans hS5 hb13
          refine ⟨_, rfl, .inr hS13, ?_⟩
          simp only [Act.put, sA, sZ, sS]
          refine tk 14 24 (v := .bool true) rfl rfl (fun W hW => exec_unot (b := false) rfl rfl) ?_
          simp only [Act.put, sA, sZ, sS]
          refine tk 15 25 (v := .bool true) rfl rfl (fun W hW => rfl) ?_
          simp only [Act.put, sA, sZ, sS]
          refine tk 16 26 (v := .bool true) rfl rfl (fun W hW => exec_move rfl rfl) ?_
          simp only [Act.put, sA, sZ, sS]
          refine tn 17 27 rfl rfl ?_
          simp only [Act.put, sA, sZ, sS]
          refine tn 18 28 rfl rfl ?_
          simp only [Act.put, sA, sZ, sS]
          refine tn 19 29 rfl rfl ?_
          simp only [Act.put, sA, sZ, sS]
          refine tn 20 30 rfl rfl ?_
          simp only [Act.put, sA, sZ, sS]
          refine tn 21 31 rfl rfl ?_
          simp only [Act.put, sA, sZ, sS]
          refine tn 22 32 rfl rfl ?_
          simp only [Act.put, sA, sZ, sS]
          refine tn 23 33 rfl rfl ?_
          simp only [Act.put, sA, sZ, sS]
          refine tn 24 34 rfl rfl ?_
          simp only [Act.put, sA, sZ, sS]
          refine tn 25 35 rfl rfl ?_
          simp only [Act.put, sA, sZ, sS]
          refine tn 26 36 rfl rfl ?_
          simp only [Act.put, sA, sZ, sS]
          refine tn 27 37 rfl rfl ?_
          simp only [Act.put, sA, sZ, sS]
          refine tn 28 38 rfl rfl ?_
          simp only [Act.put, sA, sZ, sS]
          refine tn 29 39 rfl rfl ?_
          simp only [Act.put, sA, sZ, sS]
          refine tn 30 40 rfl rfl ?_
          simp only [Act.put, sA, sZ, sS]
          refine onlyNot 31 41 rfl rfl (by kernel_rfl) rfl ?_ (.inr (by assumption))
          simp only [Act.put, sA, sZ, sS]
          refine tn 32 42 rfl rfl ?_
          simp only [Act.put, sA, sZ, sS]
          refine tn 33 43 rfl rfl ?_
          simp only [Act.put, sA, sZ, sS]
          refine tk 34 44 (v := .bool true) rfl rfl (fun W hW => rfl) ?_
          simp only [Act.put, sA, sZ, sS]
          refine done (by kernel_rfl) ?_ _
          have HB := Lib.hid hS13
          clear hi1 q1 hnm hB0 hS hS5 hS13 hb13 hst hy1 r1 HX
          go_wp2
          go_ret
          exact ⟨ret_bool HF.out.1.symm, below_trans HF.out.2 HB.out⟩
        | true =>
          have HA := Lib.hid (hall (by rw [hok, hos]; rfl))
          simp only [hos] at hst
          have hgt := gtr_nat (j := j)
          by_cases h0 : j = 0
          · subst h0
            have HN := Lib.hid (risesB_one (l := l.map PropD.key) (by simpa using hlt))
            have HB1 := Lib.hid HI.out.2.2
            clear hnr hmr
            have hgt : ∀ W : World, (binOp .gtr 3 (.int .i64 ((0 : Nat) : Int)) (.int .i64 0)).run Tryz.prog W = .ok (.bool false) W := fun W => by simp [go_sem]
            generalize l[0].key = s1 at *
            have HX := Lib.hid (And.intro hi1 (And.intro q1 (And.intro hnm (And.intro hB0 (And.intro hst (And.intro hy1 (And.intro r1 hgt)))))))
            clear hi1 q1 hnm hB0 hall hno hRw HI hst hv1 r1 htv hos hy1 hgt hok
            go_wp2
            obtain ⟨hi1, q1, hnm, hB0, hst, hy1, r1, hgt⟩ := HX.out
            refine plain_region_draws (fun W => Below wr.heap.size wr W) (by kernel_rfl) hB0 (fun hS => ?_)
            refine tk 0 10 (v := .slice (some ⟨bk, ok, none⟩) l.length c) rfl rfl (fun W hW => exec_move rfl rfl) ?_
            simp only [Act.put, sA, sZ, sS]
            refine tk 1 11 (v := .int .i64 ((0 : Nat) : Int)) rfl rfl (fun W hW => exec_move rfl rfl) ?_
            simp only [Act.put, sA, sZ, sS]
            refine tk 2 12 (v := .pointer (some ⟨bk, ok + 0 * 7, none⟩)) rfl rfl (fun W hW => exec_indexAddr rfl rfl rfl (hi1 W)) ?_
            simp only [Act.put, sA, sZ, sS]
            refine tk 3 13 (v := .pointer (some ⟨bk, ok + 0 * 7, none⟩)) rfl rfl (fun W hW => exec_fieldAddr rfl rfl (fa_pr0 _ _ W)) ?_
            simp only [Act.put, sA, sZ, sS]
            refine tk 4 14 (v := .string (strB s1)) rfl rfl (fun W hW => exec_load rfl rfl (run_load1 (w := W) Tryz.underlying9 rfl (belowCell hW (ltOf q1) q1))) ?_
            simp only [Act.put, sA, sZ, sS]
            refine onlyCall 5 15 rfl rfl (by kernel_rfl) rfl (exec_call [.string (strB s1)] rfl rfl Tryz.func35 (by kernel_rfl) (by kernel_rfl)) ?_
            refine (hnm _).mono ?_
            rintro e W5 ⟨rfl, rfl⟩
            have hS5 := hS
            refine ⟨_, rfl, .inr hS5, ?_⟩
            simp only [Act.put, sA, sZ, sS]
            refine tk 6 16 (v := .bool false) rfl rfl (fun W hW => exec_unot (b := true) rfl rfl) ?_
            simp only [Act.put, sA, sZ, sS]
            refine tk 7 17 (v := .bool false) rfl rfl (fun W hW => exec_move rfl rfl) ?_
            simp only [Act.put, sA, sZ, sS]
            refine tk 8 18 (v := .slice (some ⟨bk, ok, none⟩) l.length c) rfl rfl (fun W hW => exec_move rfl rfl) ?_
            simp only [Act.put, sA, sZ, sS]
            refine tk 9 19 (v := .int .i64 ((0 : Nat) : Int)) rfl rfl (fun W hW => exec_move rfl rfl) ?_
            simp only [Act.put, sA, sZ, sS]
            refine tk 10 20 (v := .pointer (some ⟨bk, ok + 0 * 7, none⟩)) rfl rfl (fun W hW => exec_indexAddr rfl rfl rfl (hi1 W)) ?_
            simp only [Act.put, sA, sZ, sS]
            refine tk 11 21 (v := .pointer (some ⟨bk, ok + 0 * 7 + 1, none⟩)) rfl rfl (fun W hW => exec_fieldAddr rfl rfl (fa_pr1 _ _ W)) ?_
            simp only [Act.put, sA, sZ, sS]
            refine tk 12 22 (v := .agg y1) rfl rfl (fun W hW => exec_load rfl rfl (StT.load (P := Tryz.prog) (W := W) st_val hy1 fun i u hu => belowCell hW (ltOf (r1 i u hu)) (r1 i u hu))) ?_
            simp only [Act.put, sA, sZ, sS]
            refine onlyCall 13 23 rfl rfl (by kernel_rfl) rfl (exec_call [.agg y1] rfl rfl Tryz.func94 (by kernel_rfl) (by kernel_rfl)) ?_
            refine (hst _ hS5).mono ?_
            rintro e W13 ⟨rfl, hb13⟩
            have hS13 := below_trans hS5 hb13
            refine ⟨_, rfl, .inr hS13, ?_⟩
            simp only [Act.put, sA, sZ, sS]
            refine tk 14 24 (v := .bool false) rfl rfl (fun W hW => exec_unot (b := true) rfl rfl) ?_
            simp only [Act.put, sA, sZ, sS]
            refine tk 15 25 (v := .bool false) rfl rfl (fun W hW => rfl) ?_
            simp only [Act.put, sA, sZ, sS]
            refine tk 16 26 (v := .bool false) rfl rfl (fun W hW => exec_move rfl rfl) ?_
            simp only [Act.put, sA, sZ, sS]
            refine tk 17 27 (v := .int .i64 ((0 : Nat) : Int)) rfl rfl (fun W hW => exec_move rfl rfl) ?_
            simp only [Act.put, sA, sZ, sS]
            refine tk 18 28 (v := .bool false) rfl rfl (fun W hW => exec_bini rfl rfl rfl (hgt W)) ?_
            simp only [Act.put, sA, sZ, sS]
            refine tk 19 29 (v := .bool false) rfl rfl (fun W hW => exec_move rfl rfl) ?_
            simp only [Act.put, sA, sZ, sS]
            refine tn 20 30 rfl rfl ?_
            simp only [Act.put, sA, sZ, sS]
            refine tn 21 31 rfl rfl ?_
            simp only [Act.put, sA, sZ, sS]
            refine tn 22 32 rfl rfl ?_
            simp only [Act.put, sA, sZ, sS]
            refine tn 23 33 rfl rfl ?_
            simp only [Act.put, sA, sZ, sS]
            refine tn 24 34 rfl rfl ?_
            simp only [Act.put, sA, sZ, sS]
            refine tn 25 35 rfl rfl ?_
            simp only [Act.put, sA, sZ, sS]
            refine tn 26 36 rfl rfl ?_
            simp only [Act.put, sA, sZ, sS]
            refine tn 27 37 rfl rfl ?_
            simp only [Act.put, sA, sZ, sS]
            refine tn 28 38 rfl rfl ?_
            simp only [Act.put, sA, sZ, sS]
            refine tn 29 39 rfl rfl ?_
            simp only [Act.put, sA, sZ, sS]
            refine tn 30 40 rfl rfl ?_
            simp only [Act.put, sA, sZ, sS]
            refine onlyNot 31 41 rfl rfl (by kernel_rfl) rfl ?_ (.inr (by assumption))
            simp only [Act.put, sA, sZ, sS]
            refine tn 32 42 rfl rfl ?_
            simp only [Act.put, sA, sZ, sS]
            refine tk 33 43 (v := .bool false) rfl rfl (fun W hW => rfl) ?_
            simp only [Act.put, sA, sZ, sS]
            refine tk 34 44 (v := .bool false) rfl rfl (fun W hW => rfl) ?_
            simp only [Act.put, sA, sZ, sS]
            refine done (by kernel_rfl) ?_ _
            have HB := Lib.hid (below_trans HB1.out hS13)
            clear hi1 q1 hnm hB0 hS hS5 hS13 hb13 hst hy1 r1 hgt HX
            go_wp2
            go_roundw
            case rel => exact ⟨1, hlt1, by go_num, Lib.hid ⟨HA.out, HN.out, HB.out⟩⟩
            case measure => simp [intOf]; omega
          · have h0' : 0 < j := Nat.pos_of_ne_zero h0
            obtain ⟨bk2, ok2, cs0, e2, hcs0, hcc0, hv0⟩ := hRw.get (show j - 1 < l.length by omega)
            cases e2
            obtain ⟨q0, hl0, _, _, _⟩ := prop_cells hv0 hcc0
            have hi0 : ∀ W' : World, (Instr.indexAt 27 (.slice (some ⟨bk, ok, none⟩) l.length c) (.int .i64 ((j - 1 : Nat) : Int))).run Tryz.prog W' = .ok (.pointer (some ⟨bk, ok + (j - 1) * 7, none⟩)) W' := fun W' => ia_prop (by omega) W'
            have hgt : ∀ W : World, (binOp .gtr 3 (.int .i64 (j : Int)) (.int .i64 0)).run Tryz.prog W = .ok (.bool true) W := fun W => by rw [gtr_nat]; simp [h0']
            have hsub := sub_nat h0' (show j ≤ 140737488355328 by omega)
            have hge := fun W => geq_zero (cmpB (l[j - 1]'(by omega)).key l[j].key) W
            simp only [cmp_geq] at hge
            have HNR := Lib.hid (And.intro (hnr h0') (hmr h0'))
            have HB1 := Lib.hid HI.out.2.2
            generalize (l[j - 1]'(by omega)).key = s0 at *
            generalize l[j].key = s1 at *
            have HX := Lib.hid (And.intro hi1 (And.intro q1 (And.intro hnm (And.intro hB0 (And.intro hgt (And.intro hi0 (And.intro q0 (And.intro hl0 (And.intro hl1 (And.intro hsub (And.intro hge (And.intro hst (And.intro hy1 r1)))))))))))))
            clear hi1 q1 hnm hB0 hgt hi0 q0 hl0 hl1 hsub hge hall hno hRw HI hok h0 hnr hmr hst hv1 r1 htv hos hy1 hcs0 hcc0 hv0
            cases hlb : ltB s0 s1 with
            | true =>
              have HN := Lib.hid (HNR.out.2 hlb)
              go_wp2
              obtain ⟨hi1, q1, hnm, hB0, hgt, hi0, q0, hl0, hl1, hsub, hge, hst, hy1, r1⟩ := HX.out
              refine plain_region_draws (fun W => Below wr.heap.size wr W) (by kernel_rfl) hB0 (fun hS => ?_)
              refine tk 0 10 (v := .slice (some ⟨bk, ok, none⟩) l.length c) rfl rfl (fun W hW => exec_move rfl rfl) ?_
              simp only [Act.put, sA, sZ, sS]
              refine tk 1 11 (v := .int .i64 (j : Int)) rfl rfl (fun W hW => exec_move rfl rfl) ?_
              simp only [Act.put, sA, sZ, sS]
              refine tk 2 12 (v := .pointer (some ⟨bk, ok + j * 7, none⟩)) rfl rfl (fun W hW => exec_indexAddr rfl rfl rfl (hi1 W)) ?_
              simp only [Act.put, sA, sZ, sS]
              refine tk 3 13 (v := .pointer (some ⟨bk, ok + j * 7, none⟩)) rfl rfl (fun W hW => exec_fieldAddr rfl rfl (fa_pr0 _ _ W)) ?_
              simp only [Act.put, sA, sZ, sS]
              refine tk 4 14 (v := .string (strB s1)) rfl rfl (fun W hW => exec_load rfl rfl (run_load1 (w := W) Tryz.underlying9 rfl (belowCell hW (ltOf q1) q1))) ?_
              simp only [Act.put, sA, sZ, sS]
              refine onlyCall 5 15 rfl rfl (by kernel_rfl) rfl (exec_call [.string (strB s1)] rfl rfl Tryz.func35 (by kernel_rfl) (by kernel_rfl)) ?_
              refine (hnm _).mono ?_
              rintro e W5 ⟨rfl, rfl⟩
              have hS5 := hS
              refine ⟨_, rfl, .inr hS5, ?_⟩
              simp only [Act.put, sA, sZ, sS]
              refine tk 6 16 (v := .bool false) rfl rfl (fun W hW => exec_unot (b := true) rfl rfl) ?_
              simp only [Act.put, sA, sZ, sS]
              refine tk 7 17 (v := .bool false) rfl rfl (fun W hW => exec_move rfl rfl) ?_
              simp only [Act.put, sA, sZ, sS]
              refine tk 8 18 (v := .slice (some ⟨bk, ok, none⟩) l.length c) rfl rfl (fun W hW => exec_move rfl rfl) ?_
              simp only [Act.put, sA, sZ, sS]
              refine tk 9 19 (v := .int .i64 (j : Int)) rfl rfl (fun W hW => exec_move rfl rfl) ?_
              simp only [Act.put, sA, sZ, sS]
              refine tk 10 20 (v := .pointer (some ⟨bk, ok + j * 7, none⟩)) rfl rfl (fun W hW => exec_indexAddr rfl rfl rfl (hi1 W)) ?_
              simp only [Act.put, sA, sZ, sS]
              refine tk 11 21 (v := .pointer (some ⟨bk, ok + j * 7 + 1, none⟩)) rfl rfl (fun W hW => exec_fieldAddr rfl rfl (fa_pr1 _ _ W)) ?_
              simp only [Act.put, sA, sZ, sS]
              refine tk 12 22 (v := .agg y1) rfl rfl (fun W hW => exec_load rfl rfl (StT.load (P := Tryz.prog) (W := W) st_val hy1 fun i u hu => belowCell hW (ltOf (r1 i u hu)) (r1 i u hu))) ?_
              simp only [Act.put, sA, sZ, sS]
              refine onlyCall 13 23 rfl rfl (by kernel_rfl) rfl (exec_call [.agg y1] rfl rfl Tryz.func94 (by kernel_rfl) (by kernel_rfl)) ?_
              refine (hst _ hS5).mono ?_
              rintro e W13 ⟨rfl, hb13⟩
              have hS13 := below_trans hS5 hb13
              refine ⟨_, rfl, .inr hS13, ?_⟩
              simp only [Act.put, sA, sZ, sS]
              refine tk 14 24 (v := .bool false) rfl rfl (fun W hW => exec_unot (b := true) rfl rfl) ?_
              simp only [Act.put, sA, sZ, sS]
              refine tk 15 25 (v := .bool false) rfl rfl (fun W hW => rfl) ?_
              simp only [Act.put, sA, sZ, sS]
              refine tk 16 26 (v := .bool false) rfl rfl (fun W hW => exec_move rfl rfl) ?_
              simp only [Act.put, sA, sZ, sS]
              refine tk 17 27 (v := .int .i64 (j : Int)) rfl rfl (fun W hW => exec_move rfl rfl) ?_
              simp only [Act.put, sA, sZ, sS]
              refine tk 18 28 (v := .bool true) rfl rfl (fun W hW => exec_bini rfl rfl rfl (hgt W)) ?_
              simp only [Act.put, sA, sZ, sS]
              refine tk 19 29 (v := .bool true) rfl rfl (fun W hW => exec_move rfl rfl) ?_
              simp only [Act.put, sA, sZ, sS]
              refine tk 20 30 (v := .slice (some ⟨bk, ok, none⟩) l.length c) rfl rfl (fun W hW => exec_move rfl rfl) ?_
              simp only [Act.put, sA, sZ, sS]
              refine tk 21 31 (v := .int .i64 (j : Int)) rfl rfl (fun W hW => exec_move rfl rfl) ?_
              simp only [Act.put, sA, sZ, sS]
              refine tk 22 32 (v := .int .i64 ((j - 1 : Nat) : Int)) rfl rfl (fun W hW => exec_bini rfl rfl rfl (hsub W)) ?_
              simp only [Act.put, sA, sZ, sS]
              refine tk 23 33 (v := .pointer (some ⟨bk, ok + (j - 1) * 7, none⟩)) rfl rfl (fun W hW => exec_indexAddr rfl rfl rfl (hi0 W)) ?_
              simp only [Act.put, sA, sZ, sS]
              refine tk 24 34 (v := .pointer (some ⟨bk, ok + (j - 1) * 7, none⟩)) rfl rfl (fun W hW => exec_fieldAddr rfl rfl (fa_pr0 _ _ W)) ?_
              simp only [Act.put, sA, sZ, sS]
              refine tk 25 35 (v := .string (strB s0)) rfl rfl (fun W hW => exec_load rfl rfl (run_load1 (w := W) Tryz.underlying9 rfl (belowCell hW (ltOf q0) q0))) ?_
              simp only [Act.put, sA, sZ, sS]
              refine tk 26 36 (v := .slice (some ⟨bk, ok, none⟩) l.length c) rfl rfl (fun W hW => exec_move rfl rfl) ?_
              simp only [Act.put, sA, sZ, sS]
              refine tk 27 37 (v := .int .i64 (j : Int)) rfl rfl (fun W hW => exec_move rfl rfl) ?_
              simp only [Act.put, sA, sZ, sS]
              refine tk 28 38 (v := .pointer (some ⟨bk, ok + j * 7, none⟩)) rfl rfl (fun W hW => exec_indexAddr rfl rfl rfl (hi1 W)) ?_
              simp only [Act.put, sA, sZ, sS]
              refine tk 29 39 (v := .pointer (some ⟨bk, ok + j * 7, none⟩)) rfl rfl (fun W hW => exec_fieldAddr rfl rfl (fa_pr0 _ _ W)) ?_
              simp only [Act.put, sA, sZ, sS]
              refine tk 30 40 (v := .string (strB s1)) rfl rfl (fun W hW => exec_load rfl rfl (run_load1 (w := W) Tryz.underlying9 rfl (belowCell hW (ltOf q1) q1))) ?_
              simp only [Act.put, sA, sZ, sS]
              refine onlyCall 31 41 rfl rfl (by kernel_rfl) rfl (exec_call [.string (strB s0), .string (strB s1)] rfl rfl Tryz.func93 (by kernel_rfl) (by kernel_rfl)) ?_
              refine (texts_any s0 s1 hl0 hl1 _).mono ?_
              rintro e W31 ⟨rfl, hb31⟩
              have hS31 := below_trans hS13 hb31
              refine ⟨_, rfl, .inr hS31, ?_⟩
              simp only [Act.put, sA, sZ, sS]
              refine tk 32 42 (v := .bool (!(ltB s0 s1))) rfl rfl (fun W hW => exec_bini rfl rfl rfl (hge W)) ?_
              simp only [Act.put, sA, sZ, sS]
              refine tk 33 43 (v := .bool (!(ltB s0 s1))) rfl rfl (fun W hW => rfl) ?_
              simp only [Act.put, sA, sZ, sS]
              refine tk 34 44 (v := .bool (!(ltB s0 s1))) rfl rfl (fun W hW => rfl) ?_
              simp only [Act.put, sA, sZ, sS]
              refine done (by kernel_rfl) ?_ _
              have HB := Lib.hid (below_trans HB1.out hS31)
              clear hi1 q1 hnm hB0 hgt hi0 q0 hl0 hl1 hsub hge hst hy1 r1 hS hS5 hS13 hS31 hb13 hb31 HX
              simp only [hlb, Bool.not_true]
              go_wp2
              go_roundw
              case rel => exact ⟨j + 1, hlt1, by go_num, Lib.hid ⟨HA.out, HN.out, HB.out⟩⟩
              case measure => simp [intOf]; omega
            | false =>
              have HN := Lib.hid (HNR.out.1 hlb)
              go_wp2
              obtain ⟨hi1, q1, hnm, hB0, hgt, hi0, q0, hl0, hl1, hsub, hge, hst, hy1, r1⟩ := HX.out
              refine plain_region_draws (fun W => Below wr.heap.size wr W) (by kernel_rfl) hB0 (fun hS => ?_)
              refine tk 0 10 (v := .slice (some ⟨bk, ok, none⟩) l.length c) rfl rfl (fun W hW => exec_move rfl rfl) ?_
              simp only [Act.put, sA, sZ, sS]
              refine tk 1 11 (v := .int .i64 (j : Int)) rfl rfl (fun W hW => exec_move rfl rfl) ?_
              simp only [Act.put, sA, sZ, sS]
              refine tk 2 12 (v := .pointer (some ⟨bk, ok + j * 7, none⟩)) rfl rfl (fun W hW => exec_indexAddr rfl rfl rfl (hi1 W)) ?_
              simp only [Act.put, sA, sZ, sS]
              refine tk 3 13 (v := .pointer (some ⟨bk, ok + j * 7, none⟩)) rfl rfl (fun W hW => exec_fieldAddr rfl rfl (fa_pr0 _ _ W)) ?_
              simp only [Act.put, sA, sZ, sS]
              refine tk 4 14 (v := .string (strB s1)) rfl rfl (fun W hW => exec_load rfl rfl (run_load1 (w := W) Tryz.underlying9 rfl (belowCell hW (ltOf q1) q1))) ?_
              simp only [Act.put, sA, sZ, sS]
              refine onlyCall 5 15 rfl rfl (by kernel_rfl) rfl (exec_call [.string (strB s1)] rfl rfl Tryz.func35 (by kernel_rfl) (by kernel_rfl)) ?_
              refine (hnm _).mono ?_
              rintro e W5 ⟨rfl, rfl⟩
              have hS5 := hS
              refine ⟨_, rfl, .inr hS5, ?_⟩
              simp only [Act.put, sA, sZ, sS]
              refine tk 6 16 (v := .bool false) rfl rfl (fun W hW => exec_unot (b := true) rfl rfl) ?_
              simp only [Act.put, sA, sZ, sS]
              refine tk 7 17 (v := .bool false) rfl rfl (fun W hW => exec_move rfl rfl) ?_
              simp only [Act.put, sA, sZ, sS]
              refine tk 8 18 (v := .slice (some ⟨bk, ok, none⟩) l.length c) rfl rfl (fun W hW => exec_move rfl rfl) ?_
              simp only [Act.put, sA, sZ, sS]
              refine tk 9 19 (v := .int .i64 (j : Int)) rfl rfl (fun W hW => exec_move rfl rfl) ?_
              simp only [Act.put, sA, sZ, sS]
              refine tk 10 20 (v := .pointer (some ⟨bk, ok + j * 7, none⟩)) rfl rfl (fun W hW => exec_indexAddr rfl rfl rfl (hi1 W)) ?_
              simp only [Act.put, sA, sZ, sS]
              refine tk 11 21 (v := .pointer (some ⟨bk, ok + j * 7 + 1, none⟩)) rfl rfl (fun W hW => exec_fieldAddr rfl rfl (fa_pr1 _ _ W)) ?_
              simp only [Act.put, sA, sZ, sS]
              refine tk 12 22 (v := .agg y1) rfl rfl (fun W hW => exec_load rfl rfl (StT.load (P := Tryz.prog) (W := W) st_val hy1 fun i u hu => belowCell hW (ltOf (r1 i u hu)) (r1 i u hu))) ?_
              simp only [Act.put, sA, sZ, sS]
              refine onlyCall 13 23 rfl rfl (by kernel_rfl) rfl (exec_call [.agg y1] rfl rfl Tryz.func94 (by kernel_rfl) (by kernel_rfl)) ?_
              refine (hst _ hS5).mono ?_
              rintro e W13 ⟨rfl, hb13⟩
              have hS13 := below_trans hS5 hb13
              refine ⟨_, rfl, .inr hS13, ?_⟩
              simp only [Act.put, sA, sZ, sS]
              refine tk 14 24 (v := .bool false) rfl rfl (fun W hW => exec_unot (b := true) rfl rfl) ?_
              simp only [Act.put, sA, sZ, sS]
              refine tk 15 25 (v := .bool false) rfl rfl (fun W hW => rfl) ?_
              simp only [Act.put, sA, sZ, sS]
              refine tk 16 26 (v := .bool false) rfl rfl (fun W hW => exec_move rfl rfl) ?_
              simp only [Act.put, sA, sZ, sS]
              refine tk 17 27 (v := .int .i64 (j : Int)) rfl rfl (fun W hW => exec_move rfl rfl) ?_
              simp only [Act.put, sA, sZ, sS]
              refine tk 18 28 (v := .bool true) rfl rfl (fun W hW => exec_bini rfl rfl rfl (hgt W)) ?_
              simp only [Act.put, sA, sZ, sS]
              refine tk 19 29 (v := .bool true) rfl rfl (fun W hW => exec_move rfl rfl) ?_
              simp only [Act.put, sA, sZ, sS]
              refine tk 20 30 (v := .slice (some ⟨bk, ok, none⟩) l.length c) rfl rfl (fun W hW => exec_move rfl rfl) ?_
              simp only [Act.put, sA, sZ, sS]
              refine tk 21 31 (v := .int .i64 (j : Int)) rfl rfl (fun W hW => exec_move rfl rfl) ?_
              simp only [Act.put, sA, sZ, sS]
              refine tk 22 32 (v := .int .i64 ((j - 1 : Nat) : Int)) rfl rfl (fun W hW => exec_bini rfl rfl rfl (hsub W)) ?_
              simp only [Act.put, sA, sZ, sS]
              refine tk 23 33 (v := .pointer (some ⟨bk, ok + (j - 1) * 7, none⟩)) rfl rfl (fun W hW => exec_indexAddr rfl rfl rfl (hi0 W)) ?_
              simp only [Act.put, sA, sZ, sS]
              refine tk 24 34 (v := .pointer (some ⟨bk, ok + (j - 1) * 7, none⟩)) rfl rfl (fun W hW => exec_fieldAddr rfl rfl (fa_pr0 _ _ W)) ?_
              simp only [Act.put, sA, sZ, sS]
              refine tk 25 35 (v := .string (strB s0)) rfl rfl (fun W hW => exec_load rfl rfl (run_load1 (w := W) Tryz.underlying9 rfl (belowCell hW (ltOf q0) q0))) ?_
              simp only [Act.put, sA, sZ, sS]
              refine tk 26 36 (v := .slice (some ⟨bk, ok, none⟩) l.length c) rfl rfl (fun W hW => exec_move rfl rfl) ?_
              simp only [Act.put, sA, sZ, sS]
              refine tk 27 37 (v := .int .i64 (j : Int)) rfl rfl (fun W hW => exec_move rfl rfl) ?_
              simp only [Act.put, sA, sZ, sS]
              refine tk 28 38 (v := .pointer (some ⟨bk, ok + j * 7, none⟩)) rfl rfl (fun W hW => exec_indexAddr rfl rfl rfl (hi1 W)) ?_
              simp only [Act.put, sA, sZ, sS]
              refine tk 29 39 (v := .pointer (some ⟨bk, ok + j * 7, none⟩)) rfl rfl (fun W hW => exec_fieldAddr rfl rfl (fa_pr0 _ _ W)) ?_
              simp only [Act.put, sA, sZ, sS]
              refine tk 30 40 (v := .string (strB s1)) rfl rfl (fun W hW => exec_load rfl rfl (run_load1 (w := W) Tryz.underlying9 rfl (belowCell hW (ltOf q1) q1))) ?_
              simp only [Act.put, sA, sZ, sS]
              refine onlyCall 31 41 rfl rfl (by kernel_rfl) rfl (exec_call [.string (strB s0), .string (strB s1)] rfl rfl Tryz.func93 (by kernel_rfl) (by kernel_rfl)) ?_
              refine (texts_any s0 s1 hl0 hl1 _).mono ?_
              rintro e W31 ⟨rfl, hb31⟩
              have hS31 := below_trans hS13 hb31
              refine ⟨_, rfl, .inr hS31, ?_⟩
              simp only [Act.put, sA, sZ, sS]
              refine tk 32 42 (v := .bool (!(ltB s0 s1))) rfl rfl (fun W hW => exec_bini rfl rfl rfl (hge W)) ?_
              simp only [Act.put, sA, sZ, sS]
              refine tk 33 43 (v := .bool (!(ltB s0 s1))) rfl rfl (fun W hW => rfl) ?_
              simp only [Act.put, sA, sZ, sS]
              refine tk 34 44 (v := .bool (!(ltB s0 s1))) rfl rfl (fun W hW => rfl) ?_
              simp only [Act.put, sA, sZ, sS]
              refine done (by kernel_rfl) ?_ _
              have HB := Lib.hid (below_trans HB1.out hS31)
              clear hi1 q1 hnm hB0 hgt hi0 q0 hl0 hl1 hsub hge hst hy1 r1 hS hS5 hS13 hS31 hb13 hb31 HX
              simp only [hlb, Bool.not_false]
              go_wp2
              go_ret
              exact ⟨ret_bool (by rw [okPs_eq, HN.out, Bool.and_false]), HB.out⟩
    · obtain rfl : j = l.length := by omega
      have h1 := HI.out.1
      have h2 := HI.out.2.1
      rw [List.take_length] at h1
      rw [List.take_of_length_le (by simp)] at h2
      have HF := Lib.hid (And.intro (show okPs l = true by rw [okPs_eq, h1, h2]; rfl) HI.out.2.2)
      clear HI h1 h2
      go_wp2
      go_ret
      exact ⟨ret_bool HF.out.1.symm, HF.out.2⟩
end Go.Proofs.YtihfnegakcghiaaGreatDoor
namespace Go.Proofs.YtihfnegakcghiaaGreatDoor
open Go.RowKit
def findAt (l : List Int) (x : Int) : Int := match l.findIdx? (· == x) with
  | some i => (i : Int)
  | none => -1
theorem findAt_hit {l : List Int} {x : Int} {j : Nat} (hj : j < l.length) (h1 : x ∉ l.take j) (h2 : l[j] = x) : findAt l x = (j : Int) := by
  unfold findAt
  have : l.findIdx? (· == x) = some j := by
    rw [List.findIdx?_eq_some_iff_getElem]
    refine ⟨hj, by simp [h2], fun i hi => ?_⟩
    have : l[i] ≠ x := fun e => h1 (by rw [List.mem_take_iff_getElem]; exact ⟨i, by omega, e⟩)
    simp [this]
  rw [this]
theorem findAt_none {l : List Int} {x : Int} (h : x ∉ l) : findAt l x = -1 := by
  unfold findAt
  have : l.findIdx? (· == x) = none := by
    rw [List.findIdx?_eq_none_iff]
    intro y hy
    have : y ≠ x := fun e => h (by rw [← e]; exact hy)
    simp [this]
  rw [this]
theorem findAt_neg (l : List Int) (x : Int) : decide (findAt l x < 0) = !(l.any (· == x)) := by
  by_cases h : x ∈ l
  · have h1 : l.any (· == x) = true := by rw [List.any_eq_true]; exact ⟨x, h, by simp⟩
    rw [h1]
    unfold findAt
    cases e : l.findIdx? (· == x) with
    | none =>
      rw [List.findIdx?_eq_none_iff] at e
      have := e x h
      simp at this
    | some i => simp
  · have h1 : l.any (· == x) = false := by
      rw [List.any_eq_false]
      intro y hy e
      have e : y = x := by simpa using e
      exact h (by rw [← e]; exact hy)
    rw [h1, findAt_none h]
    rfl
theorem take_no {l : List Int} {x : Int} {j : Nat} (hj : j < l.length) (h1 : x ∉ l.take j) (h2 : l[j] ≠ x) : x ∉ l.take (j + 1) := by
  rw [List.take_succ_eq_append_getElem hj, List.mem_append, List.mem_singleton]
  rintro (h | h)
  · exact h1 h
  · exact h2 h.symm
theorem reffind_any {w : World} {g : GraphD} {x : Array Value} (h : GrRd w g x) (i : Int) : Calls Tryz.prog 36 #[.agg x, .int .i64 i] w fun e w' => e = .returned (.int .i64 (findAt (g.nodes.map NodeD.id) i)) ∧ Below w.heap.size w w' := by
  obtain ⟨pn, cn, pr, cr, rfl, hn, hr⟩ := h
  have hb1 := below_new (w := w) (.cells #[.slice pn g.nodes.length cn, .slice pr g.rels.length cr, .int .i64 g.nextNode, .int .i64 g.nextRel] 25)
  have hx1 := heap_alloc_new w (.cells #[.slice pn g.nodes.length cn, .slice pr g.rels.length cr, .int .i64 g.nextNode, .int .i64 g.nextRel] 25)
  have p0 : (w.alloc (.cells #[.slice pn g.nodes.length cn, .slice pr g.rels.length cr, .int .i64 g.nextNode, .int .i64 g.nextRel] 25)).cell? ⟨w.heap.size, 0, none⟩ = some (.slice pn g.nodes.length cn) := cellOf (o := 0) hx1 rfl
  have hl := hn.below (fun h => h.below hb1) hb1
  have z1 : (g.nodes.length : Int) ≤ 140737488355328 := by have := hl.1.2.1; omega
  have H := Lib.hid (And.intro hl hb1)
  clear hn hr hb1 hx1 hl
  go_enter Tryz.func36, Tryz.ntmps36
  go_wp2
  generalize w.alloc (.cells #[.slice pn g.nodes.length cn, .slice pr g.rels.length cr, .int .i64 g.nextNode, .int .i64 g.nextRel] 25) = w1 at *
  go_loopw [5] (fun k W => ∃ j : Nat, j ≤ g.nodes.length ∧ k = .int .i64 (j : Int) ∧ Hid (i ∉ (g.nodes.map NodeD.id).take j) ∧ W = w1) (fun k _ => g.nodes.length - (intOf k).toNat)
  case atStart => exact ⟨0, Nat.zero_le _, rfl, Lib.hid (by simp), rfl⟩
  case round =>
    obtain ⟨j, hj, rfl, HI, rfl⟩ := hrel
    by_cases hlt : j < g.nodes.length
    · have hlt1 : j + 1 ≤ g.nodes.length := hlt
      obtain ⟨bk, ok, cs, hp, hcs, hcc, hv⟩ := H.out.1.get hlt
      have q1 : wr.cell? ⟨bk, ok + j * 3, none⟩ = some (.int .i64 g.nodes[j].id) := hcc 0 _ (by obtain ⟨_, _, _, _, e, _⟩ := hv; rw [e]; rfl)
      have hm : (g.nodes.map NodeD.id)[j]'(by simpa using hlt) = g.nodes[j].id := List.getElem_map ..
      have hhit := findAt_hit (l := g.nodes.map NodeD.id) (x := i) (j := j) (by simpa using hlt) HI.out
      have hmiss := take_no (l := g.nodes.map NodeD.id) (x := i) (j := j) (by simpa using hlt) HI.out
      rw [hm] at hhit hmiss
      have HM := Lib.hid (And.intro hhit hmiss)
      clear hm hhit hmiss hv hcc hcs
      generalize g.nodes[j].id = id at *
      subst hp
      by_cases he : id = i
      · have HF := Lib.hid (HM.out.1 he)
        subst he
        clear HM
        go_wp2
        go_ret
        exact ⟨ret_int HF.out.symm, H.out.2⟩
      · have HN := Lib.hid (HM.out.2 he)
        have heq : (id == i) = false := by rw [beq_eq_false_iff_ne]; exact he
        clear HM
        go_wp2
        go_roundw
        case rel => exact ⟨j + 1, hlt1, by go_num, HN, trivial⟩
        case measure => simp [intOf]; omega
    · obtain rfl : j = g.nodes.length := by omega
      have hq := HI.out
      rw [List.take_of_length_le (by simp)] at hq
      have HF := Lib.hid (findAt_none hq)
      clear hq
      go_wp2
      go_ret
      exact ⟨ret_int HF.out.symm, H.out.2⟩
end Go.Proofs.YtihfnegakcghiaaGreatDoor
namespace Go.Proofs.YtihfnegakcghiaaGreatDoor
open Go.RowKit
theorem fa_gr (i : Nat) (h : i < 4) (b : Nat) (W : World) : (Instr.fieldAt 25 (.pointer (some ⟨b, 0, none⟩)) i).run Tryz.prog W = .ok (.pointer (some ⟨b, i, none⟩)) W := by
  match i, h with
  | 0, _ => simp [go_sem]
  | 1, _ => simp [go_sem]
  | 2, _ => simp [go_sem]
  | 3, _ => simp [go_sem]
theorem fa_nd (i : Nat) (h : i < 3) (b : Nat) (W : World) : (Instr.fieldAt 45 (.pointer (some ⟨b, 0, none⟩)) i).run Tryz.prog W = .ok (.pointer (some ⟨b, i, none⟩)) W := by
  match i, h with
  | 0, _ => simp [go_sem]
  | 1, _ => simp [go_sem]
  | 2, _ => simp [go_sem]
theorem fa_rl (i : Nat) (h : i < 5) (b : Nat) (W : World) : (Instr.fieldAt 49 (.pointer (some ⟨b, 0, none⟩)) i).run Tryz.prog W = .ok (.pointer (some ⟨b, i, none⟩)) W := by
  match i, h with
  | 0, _ => simp [go_sem]
  | 1, _ => simp [go_sem]
  | 2, _ => simp [go_sem]
  | 3, _ => simp [go_sem]
  | 4, _ => simp [go_sem]
theorem fa_ndO (b o : Nat) (W : World) : (Instr.fieldAt 45 (.pointer (some ⟨b, o, none⟩)) 0).run Tryz.prog W = .ok (.pointer (some ⟨b, o, none⟩)) W := by simp [go_sem]
theorem fa_rlO (b o : Nat) (W : World) : (Instr.fieldAt 49 (.pointer (some ⟨b, o, none⟩)) 0).run Tryz.prog W = .ok (.pointer (some ⟨b, o, none⟩)) W := by simp [go_sem]
theorem lss_i (n m : Int) (W : World) : (binOp .lss 2 (.int .i64 n) (.int .i64 m)).run Tryz.prog W = .ok (.bool (decide (n < m))) W := by simp [go_sem]
theorem geq_i (n m : Int) (W : World) : (binOp .geq 2 (.int .i64 n) (.int .i64 m)).run Tryz.prog W = .ok (.bool (decide (m ≤ n))) W := by simp [go_sem]
theorem lss_0 (n : Int) (W : World) : (binOp .lss 3 (.int .i64 n) (.int .i64 0)).run Tryz.prog W = .ok (.bool (decide (n < 0))) W := by simp [go_sem]
def okNsP (g : GraphD) (j : Nat) : Bool := ((g.nodes.take j).all fun n => okN n && decide (n.id < g.nextNode)) && risesI ((g.nodes.take j).map NodeD.id)
def okRsP (g : GraphD) (j : Nat) : Bool := ((g.rels.take j).all fun r => okR r && decide (r.id < g.nextRel) && hasN g r.src && hasN g r.dst) && risesI ((g.rels.take j).map RelD.id)
theorem risesI_cut : ∀ (l m : List Int), risesI (l ++ m) = true → risesI l = true
  | [], m, _ => rfl
  | [a], m, _ => rfl
  | a :: b :: l, m, h => by
    simp only [List.cons_append, risesI, Bool.and_eq_true] at h ⊢
    exact ⟨h.1, risesI_cut (b :: l) m h.2⟩
theorem risesI_snoc : ∀ {l : List Int} {x : Int}, risesI (l ++ [x]) = (risesI l && !(match l.getLast? with | some y => decide (x ≤ y) | none => false))
  | [], x => rfl
  | [a], x => by
    simp only [List.cons_append, List.nil_append, risesI, List.getLast?_singleton, Bool.true_and, Bool.and_true]
    rw [Bool.eq_iff_iff]; simp
  | a :: b :: l, x => by
    have ih := risesI_snoc (l := b :: l) (x := x)
    simp only [List.cons_append] at ih
    simp only [List.cons_append, risesI, ih, List.getLast?_cons_cons, Bool.and_assoc]
theorem getLast_take {l : List Int} {j : Nat} (h0 : 0 < j) (hj : j ≤ l.length) : (l.take j).getLast? = some (l[j - 1]'(by omega)) := by
  rw [List.getLast?_eq_getElem?, List.length_take, List.getElem?_take]
  have e : min j l.length - 1 = j - 1 := by omega
  rw [e, if_pos (by omega), List.getElem?_eq_getElem (by omega)]
theorem okNsP_step {g : GraphD} {j : Nat} (hj : j < g.nodes.length) (b4 : Bool) (h4 : 0 < j → b4 = decide (g.nodes[j].id ≤ (g.nodes[j - 1]'(by omega)).id)) :
    okNsP g (j + 1) = (okNsP g j && (!(decide (g.nodes[j].id < 0)) && !(decide (g.nextNode ≤ g.nodes[j].id)) && !(decide (0 < j) && b4) && risesNm g.nodes[j].labels && okPs g.nodes[j].props)) := by
  unfold okNsP
  rw [List.take_succ_eq_append_getElem hj, List.all_append, List.map_append, List.map_cons, List.map_nil, risesI_snoc]
  have hl : (match ((g.nodes.take j).map NodeD.id).getLast? with | some y => decide (g.nodes[j].id ≤ y) | none => false) = (decide (0 < j) && b4) := by
    by_cases h0 : 0 < j
    · rw [List.map_take, getLast_take h0 (by simp; omega), h4 h0]
      simp [h0]
    · have : j = 0 := by omega
      subst this
      rfl
  rw [hl]
  have hn : ∀ n : NodeD, okN n = (!(decide (n.id < 0)) && risesNm n.labels && okPs n.props) := fun n => by
    unfold okN risesNm
    have : decide (0 ≤ n.id) = !(decide (n.id < 0)) := by rw [Bool.eq_iff_iff]; simp
    rw [this]
    cases decide (n.id < 0) <;> cases risesB n.labels <;> cases n.labels.all okNm <;> cases okPs n.props <;> rfl
  simp only [List.all_cons, List.all_nil, Bool.and_true, hn]
  have hlt : decide (g.nodes[j].id < g.nextNode) = !(decide (g.nextNode ≤ g.nodes[j].id)) := by rw [Bool.eq_iff_iff]; simp
  rw [hlt]
  generalize (g.nodes.take j).all _ = a1
  generalize risesI _ = a2
  generalize (decide (0 < j) && b4) = a3
  generalize decide (g.nodes[j].id < 0) = a4
  generalize decide (g.nextNode ≤ g.nodes[j].id) = a5
  generalize risesNm g.nodes[j].labels = a6
  generalize okPs g.nodes[j].props = a7
  cases a1 <;> cases a2 <;> cases a3 <;> cases a4 <;> cases a5 <;> cases a6 <;> cases a7 <;> rfl
theorem okRsP_step {g : GraphD} {j : Nat} (hj : j < g.rels.length) (b4 : Bool) (h4 : 0 < j → b4 = decide (g.rels[j].id ≤ (g.rels[j - 1]'(by omega)).id)) :
    okRsP g (j + 1) = (okRsP g j && (!(decide (g.rels[j].id < 0)) && !(decide (g.nextRel ≤ g.rels[j].id)) && !(decide (0 < j) && b4) && okNm g.rels[j].type && okPs g.rels[j].props && hasN g g.rels[j].src && hasN g g.rels[j].dst)) := by
  unfold okRsP
  rw [List.take_succ_eq_append_getElem hj, List.all_append, List.map_append, List.map_cons, List.map_nil, risesI_snoc]
  have hl : (match ((g.rels.take j).map RelD.id).getLast? with | some y => decide (g.rels[j].id ≤ y) | none => false) = (decide (0 < j) && b4) := by
    by_cases h0 : 0 < j
    · rw [List.map_take, getLast_take h0 (by simp; omega), h4 h0]
      simp [h0]
    · have : j = 0 := by omega
      subst this
      rfl
  rw [hl]
  have hn : ∀ n : RelD, okR n = (!(decide (n.id < 0)) && okNm n.type && okPs n.props) := fun n => by
    unfold okR
    have : decide (0 ≤ n.id) = !(decide (n.id < 0)) := by rw [Bool.eq_iff_iff]; simp
    rw [this]
  simp only [List.all_cons, List.all_nil, Bool.and_true, hn]
  have hlt : decide (g.rels[j].id < g.nextRel) = !(decide (g.nextRel ≤ g.rels[j].id)) := by rw [Bool.eq_iff_iff]; simp
  rw [hlt]
  generalize (g.rels.take j).all _ = a1
  generalize risesI _ = a2
  generalize (decide (0 < j) && b4) = a3
  generalize decide (g.rels[j].id < 0) = a4
  generalize decide (g.nextRel ≤ g.rels[j].id) = a5
  generalize okNm g.rels[j].type = a6
  generalize okPs g.rels[j].props = a7
  generalize hasN g g.rels[j].src = a8
  generalize hasN g g.rels[j].dst = a9
  cases a1 <;> cases a2 <;> cases a3 <;> cases a4 <;> cases a5 <;> cases a6 <;> cases a7 <;> cases a8 <;> cases a9 <;> rfl
theorem okNsP_no {g : GraphD} {j : Nat} (h : okNsP g j = false) : okG g = false := by
  cases hg : okG g with
  | false => rfl
  | true =>
    obtain ⟨_, k6, k7, _, _⟩ := (okG_iff g).1 hg
    have : okNsP g j = true := by
      unfold okNsP
      rw [Bool.and_eq_true, List.all_eq_true]
      refine ⟨fun n hn => by have := k6 n (List.mem_of_mem_take hn); simp [this.1, this.2], ?_⟩
      have e : g.nodes.map NodeD.id = (g.nodes.take j).map NodeD.id ++ (g.nodes.drop j).map NodeD.id := by rw [← List.map_append, List.take_append_drop]
      rw [e] at k7
      exact risesI_cut _ _ k7
    rw [this] at h; cases h
theorem okRsP_no {g : GraphD} {j : Nat} (h : okRsP g j = false) : okG g = false := by
  cases hg : okG g with
  | false => rfl
  | true =>
    obtain ⟨_, _, _, k8, k9⟩ := (okG_iff g).1 hg
    have : okRsP g j = true := by
      unfold okRsP
      rw [Bool.and_eq_true, List.all_eq_true]
      refine ⟨fun n hn => by obtain ⟨a, b, c, d⟩ := k8 n (List.mem_of_mem_take hn); simp [a, b, c, d], ?_⟩
      have e : g.rels.map RelD.id = (g.rels.take j).map RelD.id ++ (g.rels.drop j).map RelD.id := by rw [← List.map_append, List.take_append_drop]
      rw [e] at k9
      exact risesI_cut _ _ k9
    rw [this] at h; cases h
theorem okG_all {g : GraphD} (h1 : okSz g = true) (h2 : okNsP g g.nodes.length = true) (h3 : okRsP g g.rels.length = true) : okG g = true := by
  unfold okNsP at h2
  unfold okRsP at h3
  rw [List.take_length] at h2 h3
  unfold okG okNs okRs
  rw [h1, h2, h3]
  rfl
theorem okSz_no {g : GraphD} (h : okSz g = false) : okG g = false := by unfold okG; rw [h]; rfl
def GTot (g : GraphD) : Prop := (∀ n ∈ g.nodes, ∀ x ∈ n.props, totV x.val ≤ 1099511627776) ∧ ∀ r ∈ g.rels, ∀ x ∈ r.props, totV x.val ≤ 1099511627776
theorem hasN_find (g : GraphD) (i : Int) : decide (findAt (g.nodes.map NodeD.id) i < 0) = !(hasN g i) := by
  rw [findAt_neg, hasN_ids]
theorem refcheck_any {w : World} {g : GraphD} {x : Array Value} (h : GrRd w g x) (ht : GTot g) : Calls Tryz.prog 11 #[.agg x] w fun e w' => e = .returned (.bool (okG g)) ∧ Below w.heap.size w w' := by
  have hxs := h
  obtain ⟨pn, cn, pr, cr, rfl, hn, hr⟩ := h
  have hb1 := below_new (w := w) (.cells #[.slice pn g.nodes.length cn, .slice pr g.rels.length cr, .int .i64 g.nextNode, .int .i64 g.nextRel] 25)
  have hx1 := heap_alloc_new w (.cells #[.slice pn g.nodes.length cn, .slice pr g.rels.length cr, .int .i64 g.nextNode, .int .i64 g.nextRel] 25)
  have p0 : (w.alloc (.cells #[.slice pn g.nodes.length cn, .slice pr g.rels.length cr, .int .i64 g.nextNode, .int .i64 g.nextRel] 25)).cell? ⟨w.heap.size, 0, none⟩ = some (.slice pn g.nodes.length cn) := cellOf (o := 0) hx1 rfl
  have p1 : (w.alloc (.cells #[.slice pn g.nodes.length cn, .slice pr g.rels.length cr, .int .i64 g.nextNode, .int .i64 g.nextRel] 25)).cell? ⟨w.heap.size, 1, none⟩ = some (.slice pr g.rels.length cr) := cellOf (o := 1) hx1 rfl
  have p2 : (w.alloc (.cells #[.slice pn g.nodes.length cn, .slice pr g.rels.length cr, .int .i64 g.nextNode, .int .i64 g.nextRel] 25)).cell? ⟨w.heap.size, 2, none⟩ = some (.int .i64 g.nextNode) := cellOf (o := 2) hx1 rfl
  have p3 : (w.alloc (.cells #[.slice pn g.nodes.length cn, .slice pr g.rels.length cr, .int .i64 g.nextNode, .int .i64 g.nextRel] 25)).cell? ⟨w.heap.size, 3, none⟩ = some (.int .i64 g.nextRel) := cellOf (o := 3) hx1 rfl
  have hn1 := hn.below (fun h => h.below hb1) hb1
  have hr1 := hr.below (fun h => h.below hb1) hb1
  have z1 : (g.nodes.length : Int) ≤ 140737488355328 := by have := hn.1.2.1; omega
  have z2 : (g.rels.length : Int) ≤ 140737488355328 := by have := hr.1.2.1; omega
  have z3 : g.nodes.length ≤ 140737488355328 ∧ g.rels.length ≤ 140737488355328 := by omega
  have HX := Lib.hid (And.intro hn1 (And.intro ht (And.intro hb1 (And.intro hr1 (And.intro p0 (And.intro p1 (And.intro p2 (And.intro p3 z3))))))))
  have HG := Lib.hid (And.intro hx1 (And.intro (hxs.below hb1) (show (#[.slice pn g.nodes.length cn, .slice pr g.rels.length cr, .int .i64 g.nextNode, .int .i64 g.nextRel] : Array Value).size = 4 from rfl)))
  have hsz : okSz g = (decide (g.nodes.length + g.rels.length ≤ 65536) && decide (0 ≤ g.nextNode) && decide (g.nextNode ≤ 4611686018427387904) && decide (0 ≤ g.nextRel) && decide (g.nextRel ≤ 4611686018427387904)) := rfl
  have hw1 : IntKind.i64.wrap ((g.nodes.length : Int) + (g.rels.length : Int)) = (g.nodes.length : Int) + (g.rels.length : Int) := by rw [IntKind.wrap_i64]; omega
  have HNO := Lib.hid (okSz_no (g := g))
  clear hn hr hb1 hx1 hn1 hr1 z3 hxs ht
  cases hok : okSz g with
  | false =>
    have HF := Lib.hid (HNO.out hok)
    have q1 : (g.nodes.length : Int) + (g.rels.length : Int) ≤ 65536 → 0 ≤ g.nextNode → g.nextNode ≤ 4611686018427387904 → 0 ≤ g.nextRel → ¬ g.nextRel ≤ 4611686018427387904 := fun a b c d e => by
      rw [hok] at hsz
      have a2 : g.nodes.length + g.rels.length ≤ 65536 := by omega
      simp [a2, b, c, d, e] at hsz
    have HQ := Lib.hid q1
    clear q1 hok hsz HNO
    by_cases a1 : (g.nodes.length : Int) + (g.rels.length : Int) ≤ 65536
    · by_cases a2 : 0 ≤ g.nextNode
      · by_cases a3 : g.nextNode ≤ 4611686018427387904
        · by_cases a4 : 0 ≤ g.nextRel
          · have a5 := HQ.out a1 a2 a3 a4
            go_enter Tryz.func11, Tryz.ntmps11
            go_wp2
            go_ret
            exact ⟨ret_bool HF.out.symm, HX.out.2.2.1⟩
          · go_enter Tryz.func11, Tryz.ntmps11
            go_wp2
            go_ret
            exact ⟨ret_bool HF.out.symm, HX.out.2.2.1⟩
        · go_enter Tryz.func11, Tryz.ntmps11
          go_wp2
          go_ret
          exact ⟨ret_bool HF.out.symm, HX.out.2.2.1⟩
      · go_enter Tryz.func11, Tryz.ntmps11
        go_wp2
        go_ret
        exact ⟨ret_bool HF.out.symm, HX.out.2.2.1⟩
    · go_enter Tryz.func11, Tryz.ntmps11
      go_wp2
      go_ret
      exact ⟨ret_bool HF.out.symm, HX.out.2.2.1⟩
  | true =>
    have hpt := hok
    rw [hsz] at hpt
    simp only [Bool.and_eq_true, decide_eq_true_eq] at hpt
    obtain ⟨⟨⟨⟨a1, a2⟩, a3⟩, a4⟩, a5⟩ := hpt
    have a1' : (g.nodes.length : Int) + (g.rels.length : Int) ≤ 65536 := by omega
    have HSZ := Lib.hid hok
    clear hsz hok a1 HNO
    go_enter Tryz.func11, Tryz.ntmps11
    go_wp2
    generalize hwA : w.alloc (.cells #[.slice pn g.nodes.length cn, .slice pr g.rels.length cr, .int .i64 g.nextNode, .int .i64 g.nextRel] 25) = w1 at *
    clear hwA p0 p1 p2 p3 a1' a2 a3 a4 a5 hw1
    have hxg : ∃ xg : Array Value, xg = #[.slice pn g.nodes.length cn, .slice pr g.rels.length cr, .int .i64 g.nextNode, .int .i64 g.nextRel] := ⟨_, rfl⟩
    obtain ⟨xg, hxg⟩ := hxg
    rw [← hxg] at HG
    clear hxg
    have q0 := HX.out.2.2.2.2.1
    go_loopw [3] (fun i wr => ∃ j : Nat, j ≤ g.nodes.length ∧ i = .int .i64 (j : Int) ∧ Hid (okNsP g j = true ∧ Below w1.heap.size w1 wr)) (fun i _ => g.nodes.length - (intOf i).toNat)
    case atStart => exact ⟨0, Nat.zero_le _, rfl, Lib.hid ⟨rfl, Below.refl _ _⟩⟩
    case round =>
      clear q0
      obtain ⟨j, hj, rfl, HJ⟩ := hrel
      by_cases hlt : j < g.nodes.length
      · have hlt1 := Nat.succ_le_of_lt hlt
        have hbw : Below w1.heap.size w1 wr := HJ.out.2
        obtain ⟨bk, ok, cs, rfl, hs, hc, hv⟩ := HX.out.1.get hlt
        have hvl := hv
        have gw : wr.cell? ⟨w.heap.size, 0, none⟩ = some (.slice (some ⟨bk, ok, none⟩) g.nodes.length cn) := belowCell hbw (ltOf HX.out.2.2.2.2.1) HX.out.2.2.2.2.1 -- gw
        have hb9 : 0 < j → ∃ id0, w1.cell? ⟨bk, ok + (j - 1) * 3, none⟩ = some (.int .i64 id0) ∧ ∀ hh : j - 1 < g.nodes.length, g.nodes[j - 1].id = id0 := fun h0 => by
          obtain ⟨bk2, ok2, cs0, e2, hs0, hc0, hv0⟩ := HX.out.1.get (show j - 1 < g.nodes.length by omega)
          cases e2
          have hq0 : w1.cell? ⟨bk, ok + (j - 1) * 3, none⟩ = some (.int .i64 (g.nodes[j - 1]'(by omega)).id) := by
            obtain ⟨_, _, _, _, rfl, _⟩ := hv0
            exact hc0 0 _ rfl
          exact ⟨_, hq0, fun _ => rfl⟩
        obtain ⟨id0, hid0⟩ : ∃ id0, 0 < j → w1.cell? ⟨bk, ok + (j - 1) * 3, none⟩ = some (.int .i64 id0) ∧ ∀ hh : j - 1 < g.nodes.length, g.nodes[j - 1].id = id0 := by
          by_cases h0 : 0 < j
          · obtain ⟨a, b⟩ := hb9 h0; exact ⟨a, fun _ => b⟩
          · exact ⟨0, fun h => absurd h h0⟩
        have hst := okNsP_step hlt (decide (g.nodes[j].id ≤ id0)) (fun h0 => by rw [(hid0 h0).2 (by omega)])
        have hno := okNsP_no (g := g) (j := j + 1)
        have hok1 := HJ.out.1
        rw [hok1, Bool.true_and] at hst
        have htv := HX.out.2.1.1 _ (List.getElem_mem hlt)
        obtain ⟨pl, cl, pp, cp, ecs, hls, hps⟩ := hv
        have hn1 := below_new (w := wr) (.cells cs 45)
        have hx1 := heap_alloc_new wr (.cells cs 45)
        have HL1 := Lib.hid (StT.load (P := Tryz.prog) (g := bk) (o := ok + j * 3) (W := wr) st_node hs fun i u hu => belowCell hbw (ltOf (hc i u hu)) (hc i u hu))
        have HS1 := Lib.hid (StT.fresh st_node hs (ef_node.ones hvl) (W := wr))
        have hbw1 := below_trans hbw hn1
        have c0 : (wr.alloc (.cells cs 45)).cell? ⟨wr.heap.size, 0, none⟩ = some (.int .i64 g.nodes[j].id) := cellOf (o := 0) hx1 (by rw [ecs]; rfl)
        have c1 : (wr.alloc (.cells cs 45)).cell? ⟨wr.heap.size, 1, none⟩ = some (.slice pl g.nodes[j].labels.length cl) := cellOf (o := 1) hx1 (by rw [ecs]; rfl)
        have c2 : (wr.alloc (.cells cs 45)).cell? ⟨wr.heap.size, 2, none⟩ = some (.slice pp g.nodes[j].props.length cp) := cellOf (o := 2) hx1 (by rw [ecs]; rfl)
        have g0 : (wr.alloc (.cells cs 45)).cell? ⟨w.heap.size, 0, none⟩ = some (.slice (some ⟨bk, ok, none⟩) g.nodes.length cn) := belowCell hbw1 (ltOf HX.out.2.2.2.2.1) HX.out.2.2.2.2.1
        have g2 : (wr.alloc (.cells cs 45)).cell? ⟨w.heap.size, 2, none⟩ = some (.int .i64 g.nextNode) := belowCell hbw1 (ltOf HX.out.2.2.2.2.2.2.1) HX.out.2.2.2.2.2.2.1
        have c9 : 0 < j → (wr.alloc (.cells cs 45)).cell? ⟨bk, ok + (j - 1) * 3, none⟩ = some (.int .i64 id0) := fun h0 => belowCell hbw1 (ltOf (hid0 h0).1) (hid0 h0).1
        have hri := fun W (g : Below (wr.alloc (.cells cs 45)).heap.size (wr.alloc (.cells cs 45)) W) => refrises_any (w := W) ((hls.below hbw1).below g)
        have hpr := fun W (g : Below (wr.alloc (.cells cs 45)).heap.size (wr.alloc (.cells cs 45)) W) => refprops_any (w := W) ((hps.below (fun h => h.below hbw1) hbw1).below (fun h => h.below g) g) htv
        have hi0 : 0 < j → ∀ W' : World, (Instr.indexAt 22 (.slice (some ⟨bk, ok, none⟩) g.nodes.length cn) (.int .i64 ((j - 1 : Nat) : Int))).run Tryz.prog W' = .ok (.pointer (some ⟨bk, ok + (j - 1) * 3, none⟩)) W' := fun h0 W' => ia_node (by omega) W'
        have hsub : 0 < j → ∀ W : World, (binOp .sub 3 (.int .i64 (j : Int)) (.int .i64 1)).run Tryz.prog W = .ok (.int .i64 ((j - 1 : Nat) : Int)) W := fun h0 => sub_nat h0 (by have := HX.out.2.2.2.2.2.2.2.2; omega)
        have h1 := fun W => lss_i g.nodes[j].id 0 W
        have h2 := fun W => geq_i g.nodes[j].id g.nextNode W
        have h3 := gtr_nat (j := j)
        have h4 := fun W => geq_i id0 g.nodes[j].id W
        obtain ⟨b1, hb1⟩ : ∃ b, b = decide (g.nodes[j].id < 0) := ⟨_, rfl⟩
        obtain ⟨b2, hb2⟩ : ∃ b, b = decide (g.nextNode ≤ g.nodes[j].id) := ⟨_, rfl⟩
        obtain ⟨b3, hb3⟩ : ∃ b, b = decide (0 < j) := ⟨_, rfl⟩
        obtain ⟨b4, hb4⟩ : ∃ b, b = decide (g.nodes[j].id ≤ id0) := ⟨_, rfl⟩
        obtain ⟨b5, hb5⟩ : ∃ b, b = risesNm g.nodes[j].labels := ⟨_, rfl⟩
        obtain ⟨b6, hb6⟩ : ∃ b, b = okPs g.nodes[j].props := ⟨_, rfl⟩
        simp only [← hb1, ← hb2, ← hb3, ← hb4, ← hb5, ← hb6] at h1 h2 h3 h4 hri hpr hst
        have hst1 : (!b1 && !b2 && !(b3 && b4) && b5 && b6) = true → okNsP g (j + 1) = true := fun h => by rw [hst]; exact h
        have hst2 : (!b1 && !b2 && !(b3 && b4) && b5 && b6) = false → okG g = false := fun h => hno (by rw [hst]; exact h)
        have HALL := Lib.hid (And.intro hst1 hst2)
        have hj0 : b3 = true → 0 < j := fun e => by rw [hb3] at e; simpa using e
        have hc9 := fun e => c9 (hj0 e)
        have hhi0 := fun e => hi0 (hj0 e)
        have hhsub := fun e => hsub (hj0 e)
        have HB1 := Lib.hid hbw1
        have hB0 : Below (wr.alloc (.cells cs 45)).heap.size (wr.alloc (.cells cs 45)) (wr.alloc (.cells cs 45)).drew := (Below.refl _ _).drew
        generalize g.nodes[j].id = id at *
        generalize g.nodes[j].labels.length = nl at *
        generalize g.nodes[j].props.length = np at *
        have HY := Lib.hid (And.intro c0 (And.intro c1 (And.intro c2 (And.intro g0 (And.intro g2 (And.intro hc9 (And.intro hri (And.intro hpr (And.intro hhi0 (And.intro hhsub (And.intro h1 (And.intro h2 (And.intro h3 (And.intro h4 hB0))))))))))))))
        clear c0 c1 c2 g0 g2 c9 hc9 hri hpr hi0 hsub hhi0 hhsub h1 h2 h3 h4 hB0 hst hst1 hst2 hno hok1 hb1 hb2 hb3 hb4 hb5 hb6 hj0 hb9 hid0 hbw hbw1 hn1 hx1 hs hc hvl hls hps ecs htv HJ
        go_wp2_with (first
          | ((with_reducible apply op_load); exact HL1.out; exact rfl; clear HL1)
          | ((with_reducible apply op_store); exact HS1.out _ rfl; exact rfl; exact rfl; clear HS1))
        clear gw
        obtain ⟨c0, c1, c2, g0, g2, c9, hri, hpr, hi0, hsub, h1, h2, h3, h4, hB0⟩ := HY.out
        refine plain_region_draws (fun W => Below (wr.alloc (.cells cs 45)).heap.size (wr.alloc (.cells cs 45)) W) (by kernel_rfl) hB0 (fun hS => ?_)
        refine tk 0 47 (v := .pointer (some ⟨wr.heap.size, 0, none⟩)) rfl rfl (fun W hW => exec_fieldAddr rfl rfl (fa_nd 0 (by omega) _ W)) ?_
        simp only [Act.put, sA, sZ, sS]
        refine tk 1 48 (v := .int .i64 id) rfl rfl (fun W hW => exec_load rfl rfl (run_load1 (w := W) Tryz.underlying2 rfl (belowCell hW (ltOf c0) c0))) ?_
        simp only [Act.put, sA, sZ, sS]
        cases b1 with
        | true =>
          refine tk 2 49 (v := .bool true) rfl rfl (fun W hW => exec_bini rfl rfl rfl (h1 W)) ?_
          simp only [Act.put, sA, sZ, sS]
          refine tk 3 50 (v := .bool true) rfl rfl (fun W hW => exec_move rfl rfl) ?_
          simp only [Act.put, sA, sZ, sS]
          refine tn 4 51 rfl rfl ?_
          simp only [Act.put, sA, sZ, sS]
          refine tn 5 52 rfl rfl ?_
          simp only [Act.put, sA, sZ, sS]
          refine tn 6 53 rfl rfl ?_
          simp only [Act.put, sA, sZ, sS]
          refine tn 7 54 rfl rfl ?_
          simp only [Act.put, sA, sZ, sS]
          refine tn 8 55 rfl rfl ?_
          simp only [Act.put, sA, sZ, sS]
          refine tk 9 56 (v := .bool true) rfl rfl (fun W hW => rfl) ?_
          simp only [Act.put, sA, sZ, sS]
          refine tk 10 57 (v := .bool true) rfl rfl (fun W hW => exec_move rfl rfl) ?_
          simp only [Act.put, sA, sZ, sS]
          refine tn 11 58 rfl rfl ?_
          simp only [Act.put, sA, sZ, sS]
          refine tn 12 59 rfl rfl ?_
          simp only [Act.put, sA, sZ, sS]
          refine tn 13 60 rfl rfl ?_
          simp only [Act.put, sA, sZ, sS]
          refine tn 14 61 rfl rfl ?_
          simp only [Act.put, sA, sZ, sS]
          refine tn 15 62 rfl rfl ?_
          simp only [Act.put, sA, sZ, sS]
          refine tn 16 63 rfl rfl ?_
          simp only [Act.put, sA, sZ, sS]
          refine tn 17 64 rfl rfl ?_
          simp only [Act.put, sA, sZ, sS]
          refine tn 18 65 rfl rfl ?_
          simp only [Act.put, sA, sZ, sS]
          refine tn 19 66 rfl rfl ?_
          simp only [Act.put, sA, sZ, sS]
          refine tn 20 67 rfl rfl ?_
          simp only [Act.put, sA, sZ, sS]
          refine tn 21 68 rfl rfl ?_
          simp only [Act.put, sA, sZ, sS]
          refine tn 22 69 rfl rfl ?_
          simp only [Act.put, sA, sZ, sS]
          refine tn 23 70 rfl rfl ?_
          simp only [Act.put, sA, sZ, sS]
          refine tn 24 71 rfl rfl ?_
          simp only [Act.put, sA, sZ, sS]
          refine tk 25 72 (v := .bool true) rfl rfl (fun W hW => rfl) ?_
          simp only [Act.put, sA, sZ, sS]
          refine tk 26 73 (v := .bool true) rfl rfl (fun W hW => exec_move rfl rfl) ?_
          simp only [Act.put, sA, sZ, sS]
          refine tn 27 74 rfl rfl ?_
          simp only [Act.put, sA, sZ, sS]
          refine tn 28 75 rfl rfl ?_
          simp only [Act.put, sA, sZ, sS]
          refine onlyNot 29 76 rfl rfl (by kernel_rfl) rfl ?_ (.inr (by assumption))
          simp only [Act.put, sA, sZ, sS]
          refine tn 30 77 rfl rfl ?_
          simp only [Act.put, sA, sZ, sS]
          refine tk 31 78 (v := .bool true) rfl rfl (fun W hW => rfl) ?_
          simp only [Act.put, sA, sZ, sS]
          refine tk 32 79 (v := .bool true) rfl rfl (fun W hW => exec_move rfl rfl) ?_
          simp only [Act.put, sA, sZ, sS]
          refine tn 33 80 rfl rfl ?_
          simp only [Act.put, sA, sZ, sS]
          refine tn 34 81 rfl rfl ?_
          simp only [Act.put, sA, sZ, sS]
          refine onlyNot 35 82 rfl rfl (by kernel_rfl) rfl ?_ (.inr (by assumption))
          simp only [Act.put, sA, sZ, sS]
          refine tn 36 83 rfl rfl ?_
          simp only [Act.put, sA, sZ, sS]
          refine tk 37 84 (v := .bool true) rfl rfl (fun W hW => rfl) ?_
          simp only [Act.put, sA, sZ, sS]
          refine done (by kernel_rfl) ?_ _
          have HB := Lib.hid (below_trans HB1.out hS)
          clear hS c0 c1 c2 g0 g2 c9 hri hpr hi0 hsub h1 h2 h3 h4 hB0 HY 
          go_wp2
          go_ret
          exact ⟨ret_bool (HALL.out.2 (by simp)).symm, below_trans HX.out.2.2.1 HB.out⟩
        | false =>
          refine tk 2 49 (v := .bool false) rfl rfl (fun W hW => exec_bini rfl rfl rfl (h1 W)) ?_
          simp only [Act.put, sA, sZ, sS]
          refine tk 3 50 (v := .bool false) rfl rfl (fun W hW => exec_move rfl rfl) ?_
          simp only [Act.put, sA, sZ, sS]
          refine tk 4 51 (v := .pointer (some ⟨wr.heap.size, 0, none⟩)) rfl rfl (fun W hW => exec_fieldAddr rfl rfl (fa_nd 0 (by omega) _ W)) ?_
          simp only [Act.put, sA, sZ, sS]
          refine tk 5 52 (v := .int .i64 id) rfl rfl (fun W hW => exec_load rfl rfl (run_load1 (w := W) Tryz.underlying2 rfl (belowCell hW (ltOf c0) c0))) ?_
          simp only [Act.put, sA, sZ, sS]
          refine tk 6 53 (v := .pointer (some ⟨w.heap.size, 2, none⟩)) rfl rfl (fun W hW => exec_fieldAddr rfl rfl (fa_gr 2 (by omega) _ W)) ?_
          simp only [Act.put, sA, sZ, sS]
          refine tk 7 54 (v := .int .i64 g.nextNode) rfl rfl (fun W hW => exec_load rfl rfl (run_load1 (w := W) Tryz.underlying2 rfl (belowCell hW (ltOf g2) g2))) ?_
          simp only [Act.put, sA, sZ, sS]
          cases b2 with
          | true =>
            refine tk 8 55 (v := .bool true) rfl rfl (fun W hW => exec_bini rfl rfl rfl (h2 W)) ?_
            simp only [Act.put, sA, sZ, sS]
            refine tk 9 56 (v := .bool true) rfl rfl (fun W hW => rfl) ?_
            simp only [Act.put, sA, sZ, sS]
            refine tk 10 57 (v := .bool true) rfl rfl (fun W hW => exec_move rfl rfl) ?_
            simp only [Act.put, sA, sZ, sS]
            refine tn 11 58 rfl rfl ?_
            simp only [Act.put, sA, sZ, sS]
            refine tn 12 59 rfl rfl ?_
            simp only [Act.put, sA, sZ, sS]
            refine tn 13 60 rfl rfl ?_
            simp only [Act.put, sA, sZ, sS]
            refine tn 14 61 rfl rfl ?_
            simp only [Act.put, sA, sZ, sS]
            refine tn 15 62 rfl rfl ?_
            simp only [Act.put, sA, sZ, sS]
            refine tn 16 63 rfl rfl ?_
            simp only [Act.put, sA, sZ, sS]
            refine tn 17 64 rfl rfl ?_
            simp only [Act.put, sA, sZ, sS]
            refine tn 18 65 rfl rfl ?_
            simp only [Act.put, sA, sZ, sS]
            refine tn 19 66 rfl rfl ?_
            simp only [Act.put, sA, sZ, sS]
            refine tn 20 67 rfl rfl ?_
            simp only [Act.put, sA, sZ, sS]
            refine tn 21 68 rfl rfl ?_
            simp only [Act.put, sA, sZ, sS]
            refine tn 22 69 rfl rfl ?_
            simp only [Act.put, sA, sZ, sS]
            refine tn 23 70 rfl rfl ?_
            simp only [Act.put, sA, sZ, sS]
            refine tn 24 71 rfl rfl ?_
            simp only [Act.put, sA, sZ, sS]
            refine tk 25 72 (v := .bool true) rfl rfl (fun W hW => rfl) ?_
            simp only [Act.put, sA, sZ, sS]
            refine tk 26 73 (v := .bool true) rfl rfl (fun W hW => exec_move rfl rfl) ?_
            simp only [Act.put, sA, sZ, sS]
            refine tn 27 74 rfl rfl ?_
            simp only [Act.put, sA, sZ, sS]
            refine tn 28 75 rfl rfl ?_
            simp only [Act.put, sA, sZ, sS]
            refine onlyNot 29 76 rfl rfl (by kernel_rfl) rfl ?_ (.inr (by assumption))
            simp only [Act.put, sA, sZ, sS]
            refine tn 30 77 rfl rfl ?_
            simp only [Act.put, sA, sZ, sS]
            refine tk 31 78 (v := .bool true) rfl rfl (fun W hW => rfl) ?_
            simp only [Act.put, sA, sZ, sS]
            refine tk 32 79 (v := .bool true) rfl rfl (fun W hW => exec_move rfl rfl) ?_
            simp only [Act.put, sA, sZ, sS]
            refine tn 33 80 rfl rfl ?_
            simp only [Act.put, sA, sZ, sS]
            refine tn 34 81 rfl rfl ?_
            simp only [Act.put, sA, sZ, sS]
            refine onlyNot 35 82 rfl rfl (by kernel_rfl) rfl ?_ (.inr (by assumption))
            simp only [Act.put, sA, sZ, sS]
            refine tn 36 83 rfl rfl ?_
            simp only [Act.put, sA, sZ, sS]
            refine tk 37 84 (v := .bool true) rfl rfl (fun W hW => rfl) ?_
            simp only [Act.put, sA, sZ, sS]
            refine done (by kernel_rfl) ?_ _
            have HB := Lib.hid (below_trans HB1.out hS)
            clear hS c0 c1 c2 g0 g2 c9 hri hpr hi0 hsub h1 h2 h3 h4 hB0 HY 
            go_wp2
            go_ret
            exact ⟨ret_bool (HALL.out.2 (by simp)).symm, below_trans HX.out.2.2.1 HB.out⟩
          | false =>
            refine tk 8 55 (v := .bool false) rfl rfl (fun W hW => exec_bini rfl rfl rfl (h2 W)) ?_
            simp only [Act.put, sA, sZ, sS]
            refine tk 9 56 (v := .bool false) rfl rfl (fun W hW => rfl) ?_
            simp only [Act.put, sA, sZ, sS]
            refine tk 10 57 (v := .bool false) rfl rfl (fun W hW => exec_move rfl rfl) ?_
            simp only [Act.put, sA, sZ, sS]
            refine tk 11 58 (v := .int .i64 (j : Int)) rfl rfl (fun W hW => exec_move rfl rfl) ?_
            simp only [Act.put, sA, sZ, sS]
            cases b3 with
            | true =>
              have c9 := c9 rfl
              have hi0 := hi0 rfl
              have hsub := hsub rfl
              refine tk 12 59 (v := .bool true) rfl rfl (fun W hW => exec_bini rfl rfl rfl (h3 W)) ?_
              simp only [Act.put, sA, sZ, sS]
              refine tk 13 60 (v := .bool true) rfl rfl (fun W hW => exec_move rfl rfl) ?_
              simp only [Act.put, sA, sZ, sS]
              refine tk 14 61 (v := .pointer (some ⟨w.heap.size, 0, none⟩)) rfl rfl (fun W hW => exec_fieldAddr rfl rfl (fa_gr 0 (by omega) _ W)) ?_
              simp only [Act.put, sA, sZ, sS]
              refine tk 15 62 (v := .slice (some ⟨bk, ok, none⟩) g.nodes.length cn) rfl rfl (fun W hW => exec_load rfl rfl (run_load1 (w := W) Tryz.underlying22 rfl (belowCell hW (ltOf g0) g0))) ?_
              simp only [Act.put, sA, sZ, sS]
              refine tk 16 63 (v := .int .i64 (j : Int)) rfl rfl (fun W hW => exec_move rfl rfl) ?_
              simp only [Act.put, sA, sZ, sS]
              refine tk 17 64 (v := .int .i64 ((j - 1 : Nat) : Int)) rfl rfl (fun W hW => exec_bini rfl rfl rfl (hsub W)) ?_
              simp only [Act.put, sA, sZ, sS]
              refine tk 18 65 (v := .pointer (some ⟨bk, ok + (j - 1) * 3, none⟩)) rfl rfl (fun W hW => exec_indexAddr rfl rfl rfl (hi0 W)) ?_
              simp only [Act.put, sA, sZ, sS]
              refine tk 19 66 (v := .pointer (some ⟨bk, ok + (j - 1) * 3, none⟩)) rfl rfl (fun W hW => exec_fieldAddr rfl rfl (fa_ndO _ _ W)) ?_
              simp only [Act.put, sA, sZ, sS]
              refine tk 20 67 (v := .int .i64 id0) rfl rfl (fun W hW => exec_load rfl rfl (run_load1 (w := W) Tryz.underlying2 rfl (belowCell hW (ltOf c9) c9))) ?_
              simp only [Act.put, sA, sZ, sS]
              refine tk 21 68 (v := .pointer (some ⟨wr.heap.size, 0, none⟩)) rfl rfl (fun W hW => exec_fieldAddr rfl rfl (fa_nd 0 (by omega) _ W)) ?_
              simp only [Act.put, sA, sZ, sS]
              refine tk 22 69 (v := .int .i64 id) rfl rfl (fun W hW => exec_load rfl rfl (run_load1 (w := W) Tryz.underlying2 rfl (belowCell hW (ltOf c0) c0))) ?_
              simp only [Act.put, sA, sZ, sS]
              cases b4 with
              | true =>
                refine tk 23 70 (v := .bool true) rfl rfl (fun W hW => exec_bini rfl rfl rfl (h4 W)) ?_
                simp only [Act.put, sA, sZ, sS]
                refine tk 24 71 (v := .bool true) rfl rfl (fun W hW => rfl) ?_
                simp only [Act.put, sA, sZ, sS]
                refine tk 25 72 (v := .bool true) rfl rfl (fun W hW => rfl) ?_
                simp only [Act.put, sA, sZ, sS]
                refine tk 26 73 (v := .bool true) rfl rfl (fun W hW => exec_move rfl rfl) ?_
                simp only [Act.put, sA, sZ, sS]
                refine tn 27 74 rfl rfl ?_
                simp only [Act.put, sA, sZ, sS]
                refine tn 28 75 rfl rfl ?_
                simp only [Act.put, sA, sZ, sS]
                refine onlyNot 29 76 rfl rfl (by kernel_rfl) rfl ?_ (.inr (by assumption))
                simp only [Act.put, sA, sZ, sS]
                refine tn 30 77 rfl rfl ?_
                simp only [Act.put, sA, sZ, sS]
                refine tk 31 78 (v := .bool true) rfl rfl (fun W hW => rfl) ?_
                simp only [Act.put, sA, sZ, sS]
                refine tk 32 79 (v := .bool true) rfl rfl (fun W hW => exec_move rfl rfl) ?_
                simp only [Act.put, sA, sZ, sS]
                refine tn 33 80 rfl rfl ?_
                simp only [Act.put, sA, sZ, sS]
                refine tn 34 81 rfl rfl ?_
                simp only [Act.put, sA, sZ, sS]
                refine onlyNot 35 82 rfl rfl (by kernel_rfl) rfl ?_ (.inr (by assumption))
                simp only [Act.put, sA, sZ, sS]
                refine tn 36 83 rfl rfl ?_
                simp only [Act.put, sA, sZ, sS]
                refine tk 37 84 (v := .bool true) rfl rfl (fun W hW => rfl) ?_
                simp only [Act.put, sA, sZ, sS]
                refine done (by kernel_rfl) ?_ _
                have HB := Lib.hid (below_trans HB1.out hS)
                clear hS c0 c1 c2 g0 g2 c9 hri hpr hi0 hsub h1 h2 h3 h4 hB0 HY 
                go_wp2
                go_ret
                exact ⟨ret_bool (HALL.out.2 (by simp)).symm, below_trans HX.out.2.2.1 HB.out⟩
              | false =>
                refine tk 23 70 (v := .bool false) rfl rfl (fun W hW => exec_bini rfl rfl rfl (h4 W)) ?_
                simp only [Act.put, sA, sZ, sS]
                refine tk 24 71 (v := .bool false) rfl rfl (fun W hW => rfl) ?_
                simp only [Act.put, sA, sZ, sS]
                refine tk 25 72 (v := .bool false) rfl rfl (fun W hW => rfl) ?_
                simp only [Act.put, sA, sZ, sS]
                refine tk 26 73 (v := .bool false) rfl rfl (fun W hW => exec_move rfl rfl) ?_
                simp only [Act.put, sA, sZ, sS]
                refine tk 27 74 (v := .pointer (some ⟨wr.heap.size, 1, none⟩)) rfl rfl (fun W hW => exec_fieldAddr rfl rfl (fa_nd 1 (by omega) _ W)) ?_
                simp only [Act.put, sA, sZ, sS]
                refine tk 28 75 (v := .slice pl nl cl) rfl rfl (fun W hW => exec_load rfl rfl (run_load1 (w := W) Tryz.underlying26 rfl (belowCell hW (ltOf c1) c1))) ?_
                simp only [Act.put, sA, sZ, sS]
                cases b5 with
                | true =>
                  refine onlyCall 29 76 rfl rfl (by kernel_rfl) rfl (exec_call [.slice pl nl cl] rfl rfl Tryz.func33 (by kernel_rfl) (by kernel_rfl)) ?_
                  refine (hri _ hS).mono ?_
                  rintro e W29 ⟨rfl, hb29⟩
                  have hS29 := below_trans hS hb29
                  refine ⟨_, rfl, .inr hS29, ?_⟩
                  simp only [Act.put, sA, sZ, sS]
                  refine tk 30 77 (v := .bool false) rfl rfl (fun W hW => exec_unot (b := true) rfl rfl) ?_
                  simp only [Act.put, sA, sZ, sS]
                  refine tk 31 78 (v := .bool false) rfl rfl (fun W hW => rfl) ?_
                  simp only [Act.put, sA, sZ, sS]
                  refine tk 32 79 (v := .bool false) rfl rfl (fun W hW => exec_move rfl rfl) ?_
                  simp only [Act.put, sA, sZ, sS]
                  refine tk 33 80 (v := .pointer (some ⟨wr.heap.size, 2, none⟩)) rfl rfl (fun W hW => exec_fieldAddr rfl rfl (fa_nd 2 (by omega) _ W)) ?_
                  simp only [Act.put, sA, sZ, sS]
                  refine tk 34 81 (v := .slice pp np cp) rfl rfl (fun W hW => exec_load rfl rfl (run_load1 (w := W) Tryz.underlying27 rfl (belowCell hW (ltOf c2) c2))) ?_
                  simp only [Act.put, sA, sZ, sS]
                  cases b6 with
                  | true =>
                    refine onlyCall 35 82 rfl rfl (by kernel_rfl) rfl (exec_call [.slice pp np cp] rfl rfl Tryz.func34 (by kernel_rfl) (by kernel_rfl)) ?_
                    refine (hpr _ hS29).mono ?_
                    rintro e W35 ⟨rfl, hb35⟩
                    have hS35 := below_trans hS29 hb35
                    refine ⟨_, rfl, .inr hS35, ?_⟩
                    simp only [Act.put, sA, sZ, sS]
                    refine tk 36 83 (v := .bool false) rfl rfl (fun W hW => exec_unot (b := true) rfl rfl) ?_
                    simp only [Act.put, sA, sZ, sS]
                    refine tk 37 84 (v := .bool false) rfl rfl (fun W hW => rfl) ?_
                    simp only [Act.put, sA, sZ, sS]
                    refine done (by kernel_rfl) ?_ _
                    have HB := Lib.hid (below_trans HB1.out hS35)
                    clear hS hS29 hb29 hS35 hb35 c0 c1 c2 g0 g2 c9 hri hpr hi0 hsub h1 h2 h3 h4 hB0 HY 
                    go_wp2
                    go_roundw
                    case rel => exact ⟨j + 1, hlt1, by go_num, Lib.hid ⟨HALL.out.1 rfl, HB.out⟩⟩
                    case measure => simp [intOf]; omega
                  | false =>
                    refine onlyCall 35 82 rfl rfl (by kernel_rfl) rfl (exec_call [.slice pp np cp] rfl rfl Tryz.func34 (by kernel_rfl) (by kernel_rfl)) ?_
                    refine (hpr _ hS29).mono ?_
                    rintro e W35 ⟨rfl, hb35⟩
                    have hS35 := below_trans hS29 hb35
                    refine ⟨_, rfl, .inr hS35, ?_⟩
                    simp only [Act.put, sA, sZ, sS]
                    refine tk 36 83 (v := .bool true) rfl rfl (fun W hW => exec_unot (b := false) rfl rfl) ?_
                    simp only [Act.put, sA, sZ, sS]
                    refine tk 37 84 (v := .bool true) rfl rfl (fun W hW => rfl) ?_
                    simp only [Act.put, sA, sZ, sS]
                    refine done (by kernel_rfl) ?_ _
                    have HB := Lib.hid (below_trans HB1.out hS35)
                    clear hS hS29 hb29 hS35 hb35 c0 c1 c2 g0 g2 c9 hri hpr hi0 hsub h1 h2 h3 h4 hB0 HY 
                    go_wp2
                    go_ret
                    exact ⟨ret_bool (HALL.out.2 (by simp)).symm, below_trans HX.out.2.2.1 HB.out⟩
                | false =>
                  refine onlyCall 29 76 rfl rfl (by kernel_rfl) rfl (exec_call [.slice pl nl cl] rfl rfl Tryz.func33 (by kernel_rfl) (by kernel_rfl)) ?_
                  refine (hri _ hS).mono ?_
                  rintro e W29 ⟨rfl, hb29⟩
                  have hS29 := below_trans hS hb29
                  refine ⟨_, rfl, .inr hS29, ?_⟩
                  simp only [Act.put, sA, sZ, sS]
                  refine tk 30 77 (v := .bool true) rfl rfl (fun W hW => exec_unot (b := false) rfl rfl) ?_
                  simp only [Act.put, sA, sZ, sS]
                  refine tk 31 78 (v := .bool true) rfl rfl (fun W hW => rfl) ?_
                  simp only [Act.put, sA, sZ, sS]
                  refine tk 32 79 (v := .bool true) rfl rfl (fun W hW => exec_move rfl rfl) ?_
                  simp only [Act.put, sA, sZ, sS]
                  refine tn 33 80 rfl rfl ?_
                  simp only [Act.put, sA, sZ, sS]
                  refine tn 34 81 rfl rfl ?_
                  simp only [Act.put, sA, sZ, sS]
                  refine onlyNot 35 82 rfl rfl (by kernel_rfl) rfl ?_ (.inr (by assumption))
                  simp only [Act.put, sA, sZ, sS]
                  refine tn 36 83 rfl rfl ?_
                  simp only [Act.put, sA, sZ, sS]
                  refine tk 37 84 (v := .bool true) rfl rfl (fun W hW => rfl) ?_
                  simp only [Act.put, sA, sZ, sS]
                  refine done (by kernel_rfl) ?_ _
                  have HB := Lib.hid (below_trans HB1.out hS29)
                  clear hS hS29 hb29 c0 c1 c2 g0 g2 c9 hri hpr hi0 hsub h1 h2 h3 h4 hB0 HY 
                  go_wp2
                  go_ret
                  exact ⟨ret_bool (HALL.out.2 (by simp)).symm, below_trans HX.out.2.2.1 HB.out⟩
            | false =>
              refine tk 12 59 (v := .bool false) rfl rfl (fun W hW => exec_bini rfl rfl rfl (h3 W)) ?_
              simp only [Act.put, sA, sZ, sS]
              refine tk 13 60 (v := .bool false) rfl rfl (fun W hW => exec_move rfl rfl) ?_
              simp only [Act.put, sA, sZ, sS]
              refine tn 14 61 rfl rfl ?_
              simp only [Act.put, sA, sZ, sS]
              refine tn 15 62 rfl rfl ?_
              simp only [Act.put, sA, sZ, sS]
              refine tn 16 63 rfl rfl ?_
              simp only [Act.put, sA, sZ, sS]
              refine tn 17 64 rfl rfl ?_
              simp only [Act.put, sA, sZ, sS]
              refine tn 18 65 rfl rfl ?_
              simp only [Act.put, sA, sZ, sS]
              refine tn 19 66 rfl rfl ?_
              simp only [Act.put, sA, sZ, sS]
              refine tn 20 67 rfl rfl ?_
              simp only [Act.put, sA, sZ, sS]
              refine tn 21 68 rfl rfl ?_
              simp only [Act.put, sA, sZ, sS]
              refine tn 22 69 rfl rfl ?_
              simp only [Act.put, sA, sZ, sS]
              refine tn 23 70 rfl rfl ?_
              simp only [Act.put, sA, sZ, sS]
              refine tk 24 71 (v := .bool false) rfl rfl (fun W hW => rfl) ?_
              simp only [Act.put, sA, sZ, sS]
              refine tk 25 72 (v := .bool false) rfl rfl (fun W hW => rfl) ?_
              simp only [Act.put, sA, sZ, sS]
              refine tk 26 73 (v := .bool false) rfl rfl (fun W hW => exec_move rfl rfl) ?_
              simp only [Act.put, sA, sZ, sS]
              refine tk 27 74 (v := .pointer (some ⟨wr.heap.size, 1, none⟩)) rfl rfl (fun W hW => exec_fieldAddr rfl rfl (fa_nd 1 (by omega) _ W)) ?_
              simp only [Act.put, sA, sZ, sS]
              refine tk 28 75 (v := .slice pl nl cl) rfl rfl (fun W hW => exec_load rfl rfl (run_load1 (w := W) Tryz.underlying26 rfl (belowCell hW (ltOf c1) c1))) ?_
              simp only [Act.put, sA, sZ, sS]
              cases b5 with
              | true =>
                refine onlyCall 29 76 rfl rfl (by kernel_rfl) rfl (exec_call [.slice pl nl cl] rfl rfl Tryz.func33 (by kernel_rfl) (by kernel_rfl)) ?_
                refine (hri _ hS).mono ?_
                rintro e W29 ⟨rfl, hb29⟩
                have hS29 := below_trans hS hb29
                refine ⟨_, rfl, .inr hS29, ?_⟩
                simp only [Act.put, sA, sZ, sS]
                refine tk 30 77 (v := .bool false) rfl rfl (fun W hW => exec_unot (b := true) rfl rfl) ?_
                simp only [Act.put, sA, sZ, sS]
                refine tk 31 78 (v := .bool false) rfl rfl (fun W hW => rfl) ?_
                simp only [Act.put, sA, sZ, sS]
                refine tk 32 79 (v := .bool false) rfl rfl (fun W hW => exec_move rfl rfl) ?_
                simp only [Act.put, sA, sZ, sS]
                refine tk 33 80 (v := .pointer (some ⟨wr.heap.size, 2, none⟩)) rfl rfl (fun W hW => exec_fieldAddr rfl rfl (fa_nd 2 (by omega) _ W)) ?_
                simp only [Act.put, sA, sZ, sS]
                refine tk 34 81 (v := .slice pp np cp) rfl rfl (fun W hW => exec_load rfl rfl (run_load1 (w := W) Tryz.underlying27 rfl (belowCell hW (ltOf c2) c2))) ?_
                simp only [Act.put, sA, sZ, sS]
                cases b6 with
                | true =>
                  refine onlyCall 35 82 rfl rfl (by kernel_rfl) rfl (exec_call [.slice pp np cp] rfl rfl Tryz.func34 (by kernel_rfl) (by kernel_rfl)) ?_
                  refine (hpr _ hS29).mono ?_
                  rintro e W35 ⟨rfl, hb35⟩
                  have hS35 := below_trans hS29 hb35
                  refine ⟨_, rfl, .inr hS35, ?_⟩
                  simp only [Act.put, sA, sZ, sS]
                  refine tk 36 83 (v := .bool false) rfl rfl (fun W hW => exec_unot (b := true) rfl rfl) ?_
                  simp only [Act.put, sA, sZ, sS]
                  refine tk 37 84 (v := .bool false) rfl rfl (fun W hW => rfl) ?_
                  simp only [Act.put, sA, sZ, sS]
                  refine done (by kernel_rfl) ?_ _
                  have HB := Lib.hid (below_trans HB1.out hS35)
                  clear hS hS29 hb29 hS35 hb35 c0 c1 c2 g0 g2 c9 hri hpr hi0 hsub h1 h2 h3 h4 hB0 HY 
                  go_wp2
                  go_roundw
                  case rel => exact ⟨j + 1, hlt1, by go_num, Lib.hid ⟨HALL.out.1 rfl, HB.out⟩⟩
                  case measure => simp [intOf]; omega
                | false =>
                  refine onlyCall 35 82 rfl rfl (by kernel_rfl) rfl (exec_call [.slice pp np cp] rfl rfl Tryz.func34 (by kernel_rfl) (by kernel_rfl)) ?_
                  refine (hpr _ hS29).mono ?_
                  rintro e W35 ⟨rfl, hb35⟩
                  have hS35 := below_trans hS29 hb35
                  refine ⟨_, rfl, .inr hS35, ?_⟩
                  simp only [Act.put, sA, sZ, sS]
                  refine tk 36 83 (v := .bool true) rfl rfl (fun W hW => exec_unot (b := false) rfl rfl) ?_
                  simp only [Act.put, sA, sZ, sS]
                  refine tk 37 84 (v := .bool true) rfl rfl (fun W hW => rfl) ?_
                  simp only [Act.put, sA, sZ, sS]
                  refine done (by kernel_rfl) ?_ _
                  have HB := Lib.hid (below_trans HB1.out hS35)
                  clear hS hS29 hb29 hS35 hb35 c0 c1 c2 g0 g2 c9 hri hpr hi0 hsub h1 h2 h3 h4 hB0 HY 
                  go_wp2
                  go_ret
                  exact ⟨ret_bool (HALL.out.2 (by simp)).symm, below_trans HX.out.2.2.1 HB.out⟩
              | false =>
                refine onlyCall 29 76 rfl rfl (by kernel_rfl) rfl (exec_call [.slice pl nl cl] rfl rfl Tryz.func33 (by kernel_rfl) (by kernel_rfl)) ?_
                refine (hri _ hS).mono ?_
                rintro e W29 ⟨rfl, hb29⟩
                have hS29 := below_trans hS hb29
                refine ⟨_, rfl, .inr hS29, ?_⟩
                simp only [Act.put, sA, sZ, sS]
                refine tk 30 77 (v := .bool true) rfl rfl (fun W hW => exec_unot (b := false) rfl rfl) ?_
                simp only [Act.put, sA, sZ, sS]
                refine tk 31 78 (v := .bool true) rfl rfl (fun W hW => rfl) ?_
                simp only [Act.put, sA, sZ, sS]
                refine tk 32 79 (v := .bool true) rfl rfl (fun W hW => exec_move rfl rfl) ?_
                simp only [Act.put, sA, sZ, sS]
                refine tn 33 80 rfl rfl ?_
                simp only [Act.put, sA, sZ, sS]
                refine tn 34 81 rfl rfl ?_
                simp only [Act.put, sA, sZ, sS]
                refine onlyNot 35 82 rfl rfl (by kernel_rfl) rfl ?_ (.inr (by assumption))
                simp only [Act.put, sA, sZ, sS]
                refine tn 36 83 rfl rfl ?_
                simp only [Act.put, sA, sZ, sS]
                refine tk 37 84 (v := .bool true) rfl rfl (fun W hW => rfl) ?_
                simp only [Act.put, sA, sZ, sS]
                refine done (by kernel_rfl) ?_ _
                have HB := Lib.hid (below_trans HB1.out hS29)
                clear hS hS29 hb29 c0 c1 c2 g0 g2 c9 hri hpr hi0 hsub h1 h2 h3 h4 hB0 HY 
                go_wp2
                go_ret
                exact ⟨ret_bool (HALL.out.2 (by simp)).symm, below_trans HX.out.2.2.1 HB.out⟩
      · obtain rfl : j = g.nodes.length := by omega
        have HN := Lib.hid HJ.out.1
        have HBW := Lib.hid HJ.out.2
        have p0 := belowCell HJ.out.2 (ltOf HX.out.2.2.2.2.1) HX.out.2.2.2.2.1
        have q1 := belowCell HJ.out.2 (ltOf HX.out.2.2.2.2.2.1) HX.out.2.2.2.2.2.1
        clear HJ
        go_wp2
        clear p0 q1
        go_loopw [5] (fun i wr => ∃ j : Nat, j ≤ g.rels.length ∧ i = .int .i64 (j : Int) ∧ Hid (okRsP g j = true ∧ Below w1.heap.size w1 wr)) (fun i _ => g.rels.length - (intOf i).toNat)
        case atStart => exact ⟨0, Nat.zero_le _, rfl, Lib.hid ⟨rfl, HBW.out⟩⟩
        case round =>
          rename_i wr0 wr
          clear HBW
          obtain ⟨j, hj, rfl, HJ⟩ := hrel
          by_cases hlt : j < g.rels.length
          · have hlt1 := Nat.succ_le_of_lt hlt
            have hbw : Below w1.heap.size w1 wr := HJ.out.2
            obtain ⟨bk, ok, cs, rfl, hs, hc, hv⟩ := HX.out.2.2.2.1.get hlt
            have hvl := hv
            have gw : wr.cell? ⟨w.heap.size, 1, none⟩ = some (.slice (some ⟨bk, ok, none⟩) g.rels.length cr) := belowCell hbw (ltOf HX.out.2.2.2.2.2.1) HX.out.2.2.2.2.2.1 -- gw
            have hb9 : 0 < j → ∃ id0, w1.cell? ⟨bk, ok + (j - 1) * 5, none⟩ = some (.int .i64 id0) ∧ ∀ hh : j - 1 < g.rels.length, g.rels[j - 1].id = id0 := fun h0 => by
              obtain ⟨bk2, ok2, cs0, e2, hs0, hc0, hv0⟩ := HX.out.2.2.2.1.get (show j - 1 < g.rels.length by omega)
              cases e2
              have hq0 : w1.cell? ⟨bk, ok + (j - 1) * 5, none⟩ = some (.int .i64 (g.rels[j - 1]'(by omega)).id) := by
                obtain ⟨_, _, rfl, _⟩ := hv0
                exact hc0 0 _ rfl
              exact ⟨_, hq0, fun _ => rfl⟩
            obtain ⟨id0, hid0⟩ : ∃ id0, 0 < j → w1.cell? ⟨bk, ok + (j - 1) * 5, none⟩ = some (.int .i64 id0) ∧ ∀ hh : j - 1 < g.rels.length, g.rels[j - 1].id = id0 := by
              by_cases h0 : 0 < j
              · obtain ⟨a, b⟩ := hb9 h0; exact ⟨a, fun _ => b⟩
              · exact ⟨0, fun h => absurd h h0⟩
            have hst := okRsP_step hlt (decide (g.rels[j].id ≤ id0)) (fun h0 => by rw [(hid0 h0).2 (by omega)])
            have hno := okRsP_no (g := g) (j := j + 1)
            have hok1 := HJ.out.1
            rw [hok1, Bool.true_and] at hst
            have htv := HX.out.2.1.2 _ (List.getElem_mem hlt)
            obtain ⟨pp, cp, ecs, hty, hps⟩ := hv
            have hn1 := below_new (w := wr) (.cells cs 49)
            have hx1 := heap_alloc_new wr (.cells cs 49)
            have HL1 := Lib.hid (StT.load (P := Tryz.prog) (g := bk) (o := ok + j * 5) (W := wr) st_rel hs fun i u hu => belowCell hbw (ltOf (hc i u hu)) (hc i u hu))
            have HS1 := Lib.hid (StT.fresh st_rel hs (ef_rel.ones hvl) (W := wr))
            have hbw1 := below_trans hbw hn1
            have c0 : (wr.alloc (.cells cs 49)).cell? ⟨wr.heap.size, 0, none⟩ = some (.int .i64 g.rels[j].id) := cellOf (o := 0) hx1 (by rw [ecs]; rfl)
            have c1 : (wr.alloc (.cells cs 49)).cell? ⟨wr.heap.size, 1, none⟩ = some (.int .i64 g.rels[j].src) := cellOf (o := 1) hx1 (by rw [ecs]; rfl)
            have c2 : (wr.alloc (.cells cs 49)).cell? ⟨wr.heap.size, 2, none⟩ = some (.int .i64 g.rels[j].dst) := cellOf (o := 2) hx1 (by rw [ecs]; rfl)
            have c3 : (wr.alloc (.cells cs 49)).cell? ⟨wr.heap.size, 3, none⟩ = some (.string (strB g.rels[j].type)) := cellOf (o := 3) hx1 (by rw [ecs]; rfl)
            have c4 : (wr.alloc (.cells cs 49)).cell? ⟨wr.heap.size, 4, none⟩ = some (.slice pp g.rels[j].props.length cp) := cellOf (o := 4) hx1 (by rw [ecs]; rfl)
            have g1 : (wr.alloc (.cells cs 49)).cell? ⟨w.heap.size, 1, none⟩ = some (.slice (some ⟨bk, ok, none⟩) g.rels.length cr) := belowCell hbw1 (ltOf HX.out.2.2.2.2.2.1) HX.out.2.2.2.2.2.1
            have g3 : (wr.alloc (.cells cs 49)).cell? ⟨w.heap.size, 3, none⟩ = some (.int .i64 g.nextRel) := belowCell hbw1 (ltOf HX.out.2.2.2.2.2.2.2.1) HX.out.2.2.2.2.2.2.2.1
            have hgx : (wr.alloc (.cells cs 49)).heap[w.heap.size]? = some (.cells xg 25 (0, 0)) := belowBlk hbw1 (Array.getElem?_eq_some_iff.1 HG.out.1).1 HG.out.1
            have hgl := (Array.getElem?_eq_some_iff.1 hgx).1
            have hlg : ∀ W : World, W.heap[w.heap.size]? = some (.cells xg 25 (0, 0)) → (loadVar 25 ⟨w.heap.size, 0, none⟩).run Tryz.prog W = .ok (.agg xg) W := fun W hW => st_graph.get (P := Tryz.prog) HG.out.2.2 hW
            have hfs := fun W (gg : Below (wr.alloc (.cells cs 49)).heap.size (wr.alloc (.cells cs 49)) W) => reffind_any (w := W) ((HG.out.2.1.below hbw1).below gg) g.rels[j].src
            have hfd := fun W (gg : Below (wr.alloc (.cells cs 49)).heap.size (wr.alloc (.cells cs 49)) W) => reffind_any (w := W) ((HG.out.2.1.below hbw1).below gg) g.rels[j].dst
            have hf7 := fun W => lss_0 (findAt (g.nodes.map NodeD.id) g.rels[j].src) W
            have hf8 := fun W => lss_0 (findAt (g.nodes.map NodeD.id) g.rels[j].dst) W
            simp only [hasN_find] at hf7 hf8
            have c9 : 0 < j → (wr.alloc (.cells cs 49)).cell? ⟨bk, ok + (j - 1) * 5, none⟩ = some (.int .i64 id0) := fun h0 => belowCell hbw1 (ltOf (hid0 h0).1) (hid0 h0).1
            have hri := fun W => refname_any (w := W) g.rels[j].type hty
            have hpr := fun W (g : Below (wr.alloc (.cells cs 49)).heap.size (wr.alloc (.cells cs 49)) W) => refprops_any (w := W) ((hps.below (fun h => h.below hbw1) hbw1).below (fun h => h.below g) g) htv
            have hi0 : 0 < j → ∀ W' : World, (Instr.indexAt 23 (.slice (some ⟨bk, ok, none⟩) g.rels.length cn) (.int .i64 ((j - 1 : Nat) : Int))).run Tryz.prog W' = .ok (.pointer (some ⟨bk, ok + (j - 1) * 5, none⟩)) W' := fun h0 W' => ia_rel (by omega) W'
            have hsub : 0 < j → ∀ W : World, (binOp .sub 3 (.int .i64 (j : Int)) (.int .i64 1)).run Tryz.prog W = .ok (.int .i64 ((j - 1 : Nat) : Int)) W := fun h0 => sub_nat h0 (by have := HX.out.2.2.2.2.2.2.2.2; omega)
            have h1 := fun W => lss_i g.rels[j].id 0 W
            have h2 := fun W => geq_i g.rels[j].id g.nextRel W
            have h3 := gtr_nat (j := j)
            have h4 := fun W => geq_i id0 g.rels[j].id W
            obtain ⟨b1, hb1⟩ : ∃ b, b = decide (g.rels[j].id < 0) := ⟨_, rfl⟩
            obtain ⟨b2, hb2⟩ : ∃ b, b = decide (g.nextRel ≤ g.rels[j].id) := ⟨_, rfl⟩
            obtain ⟨b3, hb3⟩ : ∃ b, b = decide (0 < j) := ⟨_, rfl⟩
            obtain ⟨b4, hb4⟩ : ∃ b, b = decide (g.rels[j].id ≤ id0) := ⟨_, rfl⟩
            obtain ⟨b5, hb5⟩ : ∃ b, b = okNm g.rels[j].type := ⟨_, rfl⟩
            obtain ⟨b6, hb6⟩ : ∃ b, b = okPs g.rels[j].props := ⟨_, rfl⟩
            obtain ⟨b7, hb7⟩ : ∃ b, b = hasN g g.rels[j].src := ⟨_, rfl⟩
            obtain ⟨b8, hb8⟩ : ∃ b, b = hasN g g.rels[j].dst := ⟨_, rfl⟩
            simp only [← hb1, ← hb2, ← hb3, ← hb4, ← hb5, ← hb6, ← hb7, ← hb8] at h1 h2 h3 h4 hri hpr hst hf7 hf8
            have hst1 : (!b1 && !b2 && !(b3 && b4) && b5 && b6 && b7 && b8) = true → okRsP g (j + 1) = true := fun h => by rw [hst]; exact h
            have hst2 : (!b1 && !b2 && !(b3 && b4) && b5 && b6 && b7 && b8) = false → okG g = false := fun h => hno (by rw [hst]; exact h)
            have HALL := Lib.hid (And.intro hst1 hst2)
            have hj0 : b3 = true → 0 < j := fun e => by rw [hb3] at e; simpa using e
            have hc9 := fun e => c9 (hj0 e)
            have hhi0 := fun e => hi0 (hj0 e)
            have hhsub := fun e => hsub (hj0 e)
            have HB1 := Lib.hid hbw1
            have hB0 : Below (wr.alloc (.cells cs 49)).heap.size (wr.alloc (.cells cs 49)) (wr.alloc (.cells cs 49)).drew := (Below.refl _ _).drew
            generalize g.rels[j].id = id at *
            generalize findAt (g.nodes.map NodeD.id) g.rels[j].src = fs at *
            generalize findAt (g.nodes.map NodeD.id) g.rels[j].dst = fd at *
            generalize g.rels[j].src = src at *
            generalize g.rels[j].dst = dst at *
            generalize g.rels[j].type = ty at *
            generalize g.rels[j].props.length = np at *
            have HY := Lib.hid (And.intro c0 (And.intro c1 (And.intro c2 (And.intro c3 (And.intro c4 (And.intro g1 (And.intro g3 (And.intro hgx (And.intro hgl (And.intro hlg (And.intro hfs (And.intro hfd (And.intro hf7 (And.intro hf8 (And.intro hc9 (And.intro hri (And.intro hpr (And.intro hhi0 (And.intro hhsub (And.intro h1 (And.intro h2 (And.intro h3 (And.intro h4 hB0)))))))))))))))))))))))
            clear c0 c1 c2 c3 c4 g1 g3 hgx hgl hlg hfs hfd hf7 hf8 hb7 hb8 hty c9 hc9 hri hpr hi0 hsub hhi0 hhsub h1 h2 h3 h4 hB0 hst hst1 hst2 hno hok1 hb1 hb2 hb3 hb4 hb5 hb6 hj0 hb9 hid0 hbw hbw1 hn1 hx1 hs hc hvl hps ecs htv HJ
            go_wp2_with (first
              | ((with_reducible apply op_load); exact HL1.out; exact rfl; clear HL1)
              | ((with_reducible apply op_store); exact HS1.out _ rfl; exact rfl; exact rfl; clear HS1))
            clear gw
            obtain ⟨c0, c1, c2, c3, c4, g1, g3, hgx, hgl, hlg, hfs, hfd, hf7, hf8, c9, hri, hpr, hi0, hsub, h1, h2, h3, h4, hB0⟩ := HY.out
            refine plain_region_draws (fun W => Below (wr.alloc (.cells cs 49)).heap.size (wr.alloc (.cells cs 49)) W) (by kernel_rfl) hB0 (fun hS => ?_)
            refine tk 0 97 (v := .pointer (some ⟨wr.heap.size, 0, none⟩)) rfl rfl (fun W hW => exec_fieldAddr rfl rfl (fa_rl 0 (by omega) _ W)) ?_
            simp only [Act.put, sA, sZ, sS]
            refine tk 1 98 (v := .int .i64 id) rfl rfl (fun W hW => exec_load rfl rfl (run_load1 (w := W) Tryz.underlying2 rfl (belowCell hW (ltOf c0) c0))) ?_
            simp only [Act.put, sA, sZ, sS]
            cases b1 with
            | true =>
              refine tk 2 99 (v := .bool true) rfl rfl (fun W hW => exec_bini rfl rfl rfl (h1 W)) ?_
              simp only [Act.put, sA, sZ, sS]
              refine tk 3 100 (v := .bool true) rfl rfl (fun W hW => exec_move rfl rfl) ?_
              simp only [Act.put, sA, sZ, sS]
              refine tn 4 101 rfl rfl ?_
              simp only [Act.put, sA, sZ, sS]
              refine tn 5 102 rfl rfl ?_
              simp only [Act.put, sA, sZ, sS]
              refine tn 6 103 rfl rfl ?_
              simp only [Act.put, sA, sZ, sS]
              refine tn 7 104 rfl rfl ?_
              simp only [Act.put, sA, sZ, sS]
              refine tn 8 105 rfl rfl ?_
              simp only [Act.put, sA, sZ, sS]
              refine tk 9 106 (v := .bool true) rfl rfl (fun W hW => rfl) ?_
              simp only [Act.put, sA, sZ, sS]
              refine tk 10 107 (v := .bool true) rfl rfl (fun W hW => exec_move rfl rfl) ?_
              simp only [Act.put, sA, sZ, sS]
              refine tn 11 108 rfl rfl ?_
              simp only [Act.put, sA, sZ, sS]
              refine tn 12 109 rfl rfl ?_
              simp only [Act.put, sA, sZ, sS]
              refine tn 13 110 rfl rfl ?_
              simp only [Act.put, sA, sZ, sS]
              refine tn 14 111 rfl rfl ?_
              simp only [Act.put, sA, sZ, sS]
              refine tn 15 112 rfl rfl ?_
              simp only [Act.put, sA, sZ, sS]
              refine tn 16 113 rfl rfl ?_
              simp only [Act.put, sA, sZ, sS]
              refine tn 17 114 rfl rfl ?_
              simp only [Act.put, sA, sZ, sS]
              refine tn 18 115 rfl rfl ?_
              simp only [Act.put, sA, sZ, sS]
              refine tn 19 116 rfl rfl ?_
              simp only [Act.put, sA, sZ, sS]
              refine tn 20 117 rfl rfl ?_
              simp only [Act.put, sA, sZ, sS]
              refine tn 21 118 rfl rfl ?_
              simp only [Act.put, sA, sZ, sS]
              refine tn 22 119 rfl rfl ?_
              simp only [Act.put, sA, sZ, sS]
              refine tn 23 120 rfl rfl ?_
              simp only [Act.put, sA, sZ, sS]
              refine tn 24 121 rfl rfl ?_
              simp only [Act.put, sA, sZ, sS]
              refine tk 25 122 (v := .bool true) rfl rfl (fun W hW => rfl) ?_
              simp only [Act.put, sA, sZ, sS]
              refine tk 26 123 (v := .bool true) rfl rfl (fun W hW => exec_move rfl rfl) ?_
              simp only [Act.put, sA, sZ, sS]
              refine tn 27 124 rfl rfl ?_
              simp only [Act.put, sA, sZ, sS]
              refine tn 28 125 rfl rfl ?_
              simp only [Act.put, sA, sZ, sS]
              refine onlyNot 29 126 rfl rfl (by kernel_rfl) rfl ?_ (.inr (by assumption))
              simp only [Act.put, sA, sZ, sS]
              refine tn 30 127 rfl rfl ?_
              simp only [Act.put, sA, sZ, sS]
              refine tk 31 128 (v := .bool true) rfl rfl (fun W hW => rfl) ?_
              simp only [Act.put, sA, sZ, sS]
              refine tk 32 129 (v := .bool true) rfl rfl (fun W hW => exec_move rfl rfl) ?_
              simp only [Act.put, sA, sZ, sS]
              refine tn 33 130 rfl rfl ?_
              simp only [Act.put, sA, sZ, sS]
              refine tn 34 131 rfl rfl ?_
              simp only [Act.put, sA, sZ, sS]
              refine onlyNot 35 132 rfl rfl (by kernel_rfl) rfl ?_ (.inr (by assumption))
              simp only [Act.put, sA, sZ, sS]
              refine tn 36 133 rfl rfl ?_
              simp only [Act.put, sA, sZ, sS]
              refine tk 37 134 (v := .bool true) rfl rfl (fun W hW => rfl) ?_
              simp only [Act.put, sA, sZ, sS]
              refine tk 38 135 (v := .bool true) rfl rfl (fun W hW => exec_move rfl rfl) ?_
              simp only [Act.put, sA, sZ, sS]
              refine tn 39 136 rfl rfl ?_
              simp only [Act.put, sA, sZ, sS]
              refine tn 40 137 rfl rfl ?_
              simp only [Act.put, sA, sZ, sS]
              refine tn 41 138 rfl rfl ?_
              simp only [Act.put, sA, sZ, sS]
              refine onlyNot 42 139 rfl rfl (by kernel_rfl) rfl ?_ (.inr (by assumption))
              simp only [Act.put, sA, sZ, sS]
              refine tn 43 140 rfl rfl ?_
              simp only [Act.put, sA, sZ, sS]
              refine tk 44 141 (v := .bool true) rfl rfl (fun W hW => rfl) ?_
              simp only [Act.put, sA, sZ, sS]
              refine tk 45 142 (v := .bool true) rfl rfl (fun W hW => exec_move rfl rfl) ?_
              simp only [Act.put, sA, sZ, sS]
              refine tn 46 143 rfl rfl ?_
              simp only [Act.put, sA, sZ, sS]
              refine tn 47 144 rfl rfl ?_
              simp only [Act.put, sA, sZ, sS]
              refine tn 48 145 rfl rfl ?_
              simp only [Act.put, sA, sZ, sS]
              refine onlyNot 49 146 rfl rfl (by kernel_rfl) rfl ?_ (.inr (by assumption))
              simp only [Act.put, sA, sZ, sS]
              refine tn 50 147 rfl rfl ?_
              simp only [Act.put, sA, sZ, sS]
              refine tk 51 148 (v := .bool true) rfl rfl (fun W hW => rfl) ?_
              simp only [Act.put, sA, sZ, sS]
              refine done (by kernel_rfl) ?_ _
              have HB := Lib.hid (below_trans HB1.out hS)
              clear hS c0 c1 c2 c3 c4 g1 g3 hgx hgl hlg hfs hfd hf7 hf8 c9 hri hpr hi0 hsub h1 h2 h3 h4 hB0 HY 
              go_wp2
              go_ret
              exact ⟨ret_bool (HALL.out.2 (by simp)).symm, below_trans HX.out.2.2.1 HB.out⟩
            | false =>
              refine tk 2 99 (v := .bool false) rfl rfl (fun W hW => exec_bini rfl rfl rfl (h1 W)) ?_
              simp only [Act.put, sA, sZ, sS]
              refine tk 3 100 (v := .bool false) rfl rfl (fun W hW => exec_move rfl rfl) ?_
              simp only [Act.put, sA, sZ, sS]
              refine tk 4 101 (v := .pointer (some ⟨wr.heap.size, 0, none⟩)) rfl rfl (fun W hW => exec_fieldAddr rfl rfl (fa_rl 0 (by omega) _ W)) ?_
              simp only [Act.put, sA, sZ, sS]
              refine tk 5 102 (v := .int .i64 id) rfl rfl (fun W hW => exec_load rfl rfl (run_load1 (w := W) Tryz.underlying2 rfl (belowCell hW (ltOf c0) c0))) ?_
              simp only [Act.put, sA, sZ, sS]
              refine tk 6 103 (v := .pointer (some ⟨w.heap.size, 3, none⟩)) rfl rfl (fun W hW => exec_fieldAddr rfl rfl (fa_gr 3 (by omega) _ W)) ?_
              simp only [Act.put, sA, sZ, sS]
              refine tk 7 104 (v := .int .i64 g.nextRel) rfl rfl (fun W hW => exec_load rfl rfl (run_load1 (w := W) Tryz.underlying2 rfl (belowCell hW (ltOf g3) g3))) ?_
              simp only [Act.put, sA, sZ, sS]
              cases b2 with
              | true =>
                refine tk 8 105 (v := .bool true) rfl rfl (fun W hW => exec_bini rfl rfl rfl (h2 W)) ?_
                simp only [Act.put, sA, sZ, sS]
                refine tk 9 106 (v := .bool true) rfl rfl (fun W hW => rfl) ?_
                simp only [Act.put, sA, sZ, sS]
                refine tk 10 107 (v := .bool true) rfl rfl (fun W hW => exec_move rfl rfl) ?_
                simp only [Act.put, sA, sZ, sS]
                refine tn 11 108 rfl rfl ?_
                simp only [Act.put, sA, sZ, sS]
                refine tn 12 109 rfl rfl ?_
                simp only [Act.put, sA, sZ, sS]
                refine tn 13 110 rfl rfl ?_
                simp only [Act.put, sA, sZ, sS]
                refine tn 14 111 rfl rfl ?_
                simp only [Act.put, sA, sZ, sS]
                refine tn 15 112 rfl rfl ?_
                simp only [Act.put, sA, sZ, sS]
                refine tn 16 113 rfl rfl ?_
                simp only [Act.put, sA, sZ, sS]
                refine tn 17 114 rfl rfl ?_
                simp only [Act.put, sA, sZ, sS]
                refine tn 18 115 rfl rfl ?_
                simp only [Act.put, sA, sZ, sS]
                refine tn 19 116 rfl rfl ?_
                simp only [Act.put, sA, sZ, sS]
                refine tn 20 117 rfl rfl ?_
                simp only [Act.put, sA, sZ, sS]
                refine tn 21 118 rfl rfl ?_
                simp only [Act.put, sA, sZ, sS]
                refine tn 22 119 rfl rfl ?_
                simp only [Act.put, sA, sZ, sS]
                refine tn 23 120 rfl rfl ?_
                simp only [Act.put, sA, sZ, sS]
                refine tn 24 121 rfl rfl ?_
                simp only [Act.put, sA, sZ, sS]
                refine tk 25 122 (v := .bool true) rfl rfl (fun W hW => rfl) ?_
                simp only [Act.put, sA, sZ, sS]
                refine tk 26 123 (v := .bool true) rfl rfl (fun W hW => exec_move rfl rfl) ?_
                simp only [Act.put, sA, sZ, sS]
                refine tn 27 124 rfl rfl ?_
                simp only [Act.put, sA, sZ, sS]
                refine tn 28 125 rfl rfl ?_
                simp only [Act.put, sA, sZ, sS]
                refine onlyNot 29 126 rfl rfl (by kernel_rfl) rfl ?_ (.inr (by assumption))
                simp only [Act.put, sA, sZ, sS]
                refine tn 30 127 rfl rfl ?_
                simp only [Act.put, sA, sZ, sS]
                refine tk 31 128 (v := .bool true) rfl rfl (fun W hW => rfl) ?_
                simp only [Act.put, sA, sZ, sS]
                refine tk 32 129 (v := .bool true) rfl rfl (fun W hW => exec_move rfl rfl) ?_
                simp only [Act.put, sA, sZ, sS]
                refine tn 33 130 rfl rfl ?_
                simp only [Act.put, sA, sZ, sS]
                refine tn 34 131 rfl rfl ?_
                simp only [Act.put, sA, sZ, sS]
                refine onlyNot 35 132 rfl rfl (by kernel_rfl) rfl ?_ (.inr (by assumption))
                simp only [Act.put, sA, sZ, sS]
                refine tn 36 133 rfl rfl ?_
                simp only [Act.put, sA, sZ, sS]
                refine tk 37 134 (v := .bool true) rfl rfl (fun W hW => rfl) ?_
                simp only [Act.put, sA, sZ, sS]
                refine tk 38 135 (v := .bool true) rfl rfl (fun W hW => exec_move rfl rfl) ?_
                simp only [Act.put, sA, sZ, sS]
                refine tn 39 136 rfl rfl ?_
                simp only [Act.put, sA, sZ, sS]
                refine tn 40 137 rfl rfl ?_
                simp only [Act.put, sA, sZ, sS]
                refine tn 41 138 rfl rfl ?_
                simp only [Act.put, sA, sZ, sS]
                refine onlyNot 42 139 rfl rfl (by kernel_rfl) rfl ?_ (.inr (by assumption))
                simp only [Act.put, sA, sZ, sS]
                refine tn 43 140 rfl rfl ?_
                simp only [Act.put, sA, sZ, sS]
                refine tk 44 141 (v := .bool true) rfl rfl (fun W hW => rfl) ?_
                simp only [Act.put, sA, sZ, sS]
                refine tk 45 142 (v := .bool true) rfl rfl (fun W hW => exec_move rfl rfl) ?_
                simp only [Act.put, sA, sZ, sS]
                refine tn 46 143 rfl rfl ?_
                simp only [Act.put, sA, sZ, sS]
                refine tn 47 144 rfl rfl ?_
                simp only [Act.put, sA, sZ, sS]
                refine tn 48 145 rfl rfl ?_
                simp only [Act.put, sA, sZ, sS]
                refine onlyNot 49 146 rfl rfl (by kernel_rfl) rfl ?_ (.inr (by assumption))
                simp only [Act.put, sA, sZ, sS]
                refine tn 50 147 rfl rfl ?_
                simp only [Act.put, sA, sZ, sS]
                refine tk 51 148 (v := .bool true) rfl rfl (fun W hW => rfl) ?_
                simp only [Act.put, sA, sZ, sS]
                refine done (by kernel_rfl) ?_ _
                have HB := Lib.hid (below_trans HB1.out hS)
                clear hS c0 c1 c2 c3 c4 g1 g3 hgx hgl hlg hfs hfd hf7 hf8 c9 hri hpr hi0 hsub h1 h2 h3 h4 hB0 HY 
                go_wp2
                go_ret
                exact ⟨ret_bool (HALL.out.2 (by simp)).symm, below_trans HX.out.2.2.1 HB.out⟩
              | false =>
                refine tk 8 105 (v := .bool false) rfl rfl (fun W hW => exec_bini rfl rfl rfl (h2 W)) ?_
                simp only [Act.put, sA, sZ, sS]
                refine tk 9 106 (v := .bool false) rfl rfl (fun W hW => rfl) ?_
                simp only [Act.put, sA, sZ, sS]
                refine tk 10 107 (v := .bool false) rfl rfl (fun W hW => exec_move rfl rfl) ?_
                simp only [Act.put, sA, sZ, sS]
                refine tk 11 108 (v := .int .i64 (j : Int)) rfl rfl (fun W hW => exec_move rfl rfl) ?_
                simp only [Act.put, sA, sZ, sS]
                cases b3 with
                | true =>
                  have c9 := c9 rfl
                  have hi0 := hi0 rfl
                  have hsub := hsub rfl
                  refine tk 12 109 (v := .bool true) rfl rfl (fun W hW => exec_bini rfl rfl rfl (h3 W)) ?_
                  simp only [Act.put, sA, sZ, sS]
                  refine tk 13 110 (v := .bool true) rfl rfl (fun W hW => exec_move rfl rfl) ?_
                  simp only [Act.put, sA, sZ, sS]
                  refine tk 14 111 (v := .pointer (some ⟨w.heap.size, 1, none⟩)) rfl rfl (fun W hW => exec_fieldAddr rfl rfl (fa_gr 1 (by omega) _ W)) ?_
                  simp only [Act.put, sA, sZ, sS]
                  refine tk 15 112 (v := .slice (some ⟨bk, ok, none⟩) g.rels.length cr) rfl rfl (fun W hW => exec_load rfl rfl (run_load1 (w := W) Tryz.underlying23 rfl (belowCell hW (ltOf g1) g1))) ?_
                  simp only [Act.put, sA, sZ, sS]
                  refine tk 16 113 (v := .int .i64 (j : Int)) rfl rfl (fun W hW => exec_move rfl rfl) ?_
                  simp only [Act.put, sA, sZ, sS]
                  refine tk 17 114 (v := .int .i64 ((j - 1 : Nat) : Int)) rfl rfl (fun W hW => exec_bini rfl rfl rfl (hsub W)) ?_
                  simp only [Act.put, sA, sZ, sS]
                  refine tk 18 115 (v := .pointer (some ⟨bk, ok + (j - 1) * 5, none⟩)) rfl rfl (fun W hW => exec_indexAddr rfl rfl rfl (hi0 W)) ?_
                  simp only [Act.put, sA, sZ, sS]
                  refine tk 19 116 (v := .pointer (some ⟨bk, ok + (j - 1) * 5, none⟩)) rfl rfl (fun W hW => exec_fieldAddr rfl rfl (fa_rlO _ _ W)) ?_
                  simp only [Act.put, sA, sZ, sS]
                  refine tk 20 117 (v := .int .i64 id0) rfl rfl (fun W hW => exec_load rfl rfl (run_load1 (w := W) Tryz.underlying2 rfl (belowCell hW (ltOf c9) c9))) ?_
                  simp only [Act.put, sA, sZ, sS]
                  refine tk 21 118 (v := .pointer (some ⟨wr.heap.size, 0, none⟩)) rfl rfl (fun W hW => exec_fieldAddr rfl rfl (fa_rl 0 (by omega) _ W)) ?_
                  simp only [Act.put, sA, sZ, sS]
                  refine tk 22 119 (v := .int .i64 id) rfl rfl (fun W hW => exec_load rfl rfl (run_load1 (w := W) Tryz.underlying2 rfl (belowCell hW (ltOf c0) c0))) ?_
                  simp only [Act.put, sA, sZ, sS]
                  cases b4 with
                  | true =>
                    refine tk 23 120 (v := .bool true) rfl rfl (fun W hW => exec_bini rfl rfl rfl (h4 W)) ?_
                    simp only [Act.put, sA, sZ, sS]
                    refine tk 24 121 (v := .bool true) rfl rfl (fun W hW => rfl) ?_
                    simp only [Act.put, sA, sZ, sS]
                    refine tk 25 122 (v := .bool true) rfl rfl (fun W hW => rfl) ?_
                    simp only [Act.put, sA, sZ, sS]
                    refine tk 26 123 (v := .bool true) rfl rfl (fun W hW => exec_move rfl rfl) ?_
                    simp only [Act.put, sA, sZ, sS]
                    refine tn 27 124 rfl rfl ?_
                    simp only [Act.put, sA, sZ, sS]
                    refine tn 28 125 rfl rfl ?_
                    simp only [Act.put, sA, sZ, sS]
                    refine onlyNot 29 126 rfl rfl (by kernel_rfl) rfl ?_ (.inr (by assumption))
                    simp only [Act.put, sA, sZ, sS]
                    refine tn 30 127 rfl rfl ?_
                    simp only [Act.put, sA, sZ, sS]
                    refine tk 31 128 (v := .bool true) rfl rfl (fun W hW => rfl) ?_
                    simp only [Act.put, sA, sZ, sS]
                    refine tk 32 129 (v := .bool true) rfl rfl (fun W hW => exec_move rfl rfl) ?_
                    simp only [Act.put, sA, sZ, sS]
                    refine tn 33 130 rfl rfl ?_
                    simp only [Act.put, sA, sZ, sS]
                    refine tn 34 131 rfl rfl ?_
                    simp only [Act.put, sA, sZ, sS]
                    refine onlyNot 35 132 rfl rfl (by kernel_rfl) rfl ?_ (.inr (by assumption))
                    simp only [Act.put, sA, sZ, sS]
                    refine tn 36 133 rfl rfl ?_
                    simp only [Act.put, sA, sZ, sS]
                    refine tk 37 134 (v := .bool true) rfl rfl (fun W hW => rfl) ?_
                    simp only [Act.put, sA, sZ, sS]
                    refine tk 38 135 (v := .bool true) rfl rfl (fun W hW => exec_move rfl rfl) ?_
                    simp only [Act.put, sA, sZ, sS]
                    refine tn 39 136 rfl rfl ?_
                    simp only [Act.put, sA, sZ, sS]
                    refine tn 40 137 rfl rfl ?_
                    simp only [Act.put, sA, sZ, sS]
                    refine tn 41 138 rfl rfl ?_
                    simp only [Act.put, sA, sZ, sS]
                    refine onlyNot 42 139 rfl rfl (by kernel_rfl) rfl ?_ (.inr (by assumption))
                    simp only [Act.put, sA, sZ, sS]
                    refine tn 43 140 rfl rfl ?_
                    simp only [Act.put, sA, sZ, sS]
                    refine tk 44 141 (v := .bool true) rfl rfl (fun W hW => rfl) ?_
                    simp only [Act.put, sA, sZ, sS]
                    refine tk 45 142 (v := .bool true) rfl rfl (fun W hW => exec_move rfl rfl) ?_
                    simp only [Act.put, sA, sZ, sS]
                    refine tn 46 143 rfl rfl ?_
                    simp only [Act.put, sA, sZ, sS]
                    refine tn 47 144 rfl rfl ?_
                    simp only [Act.put, sA, sZ, sS]
                    refine tn 48 145 rfl rfl ?_
                    simp only [Act.put, sA, sZ, sS]
                    refine onlyNot 49 146 rfl rfl (by kernel_rfl) rfl ?_ (.inr (by assumption))
                    simp only [Act.put, sA, sZ, sS]
                    refine tn 50 147 rfl rfl ?_
                    simp only [Act.put, sA, sZ, sS]
                    refine tk 51 148 (v := .bool true) rfl rfl (fun W hW => rfl) ?_
                    simp only [Act.put, sA, sZ, sS]
                    refine done (by kernel_rfl) ?_ _
                    have HB := Lib.hid (below_trans HB1.out hS)
                    clear hS c0 c1 c2 c3 c4 g1 g3 hgx hgl hlg hfs hfd hf7 hf8 c9 hri hpr hi0 hsub h1 h2 h3 h4 hB0 HY 
                    go_wp2
                    go_ret
                    exact ⟨ret_bool (HALL.out.2 (by simp)).symm, below_trans HX.out.2.2.1 HB.out⟩
                  | false =>
                    refine tk 23 120 (v := .bool false) rfl rfl (fun W hW => exec_bini rfl rfl rfl (h4 W)) ?_
                    simp only [Act.put, sA, sZ, sS]
                    refine tk 24 121 (v := .bool false) rfl rfl (fun W hW => rfl) ?_
                    simp only [Act.put, sA, sZ, sS]
                    refine tk 25 122 (v := .bool false) rfl rfl (fun W hW => rfl) ?_
                    simp only [Act.put, sA, sZ, sS]
                    refine tk 26 123 (v := .bool false) rfl rfl (fun W hW => exec_move rfl rfl) ?_
                    simp only [Act.put, sA, sZ, sS]
                    refine tk 27 124 (v := .pointer (some ⟨wr.heap.size, 3, none⟩)) rfl rfl (fun W hW => exec_fieldAddr rfl rfl (fa_rl 3 (by omega) _ W)) ?_
                    simp only [Act.put, sA, sZ, sS]
                    refine tk 28 125 (v := .string (strB ty)) rfl rfl (fun W hW => exec_load rfl rfl (run_load1 (w := W) Tryz.underlying9 rfl (belowCell hW (ltOf c3) c3))) ?_
                    simp only [Act.put, sA, sZ, sS]
                    cases b5 with
                    | true =>
                      refine onlyCall 29 126 rfl rfl (by kernel_rfl) rfl (exec_call [.string (strB ty)] rfl rfl Tryz.func35 (by kernel_rfl) (by kernel_rfl)) ?_
                      refine (hri _).mono ?_
                      rintro e W29 ⟨rfl, rfl⟩
                      have hS29 := hS
                      refine ⟨_, rfl, .inr hS29, ?_⟩
                      simp only [Act.put, sA, sZ, sS]
                      refine tk 30 127 (v := .bool false) rfl rfl (fun W hW => exec_unot (b := true) rfl rfl) ?_
                      simp only [Act.put, sA, sZ, sS]
                      refine tk 31 128 (v := .bool false) rfl rfl (fun W hW => rfl) ?_
                      simp only [Act.put, sA, sZ, sS]
                      refine tk 32 129 (v := .bool false) rfl rfl (fun W hW => exec_move rfl rfl) ?_
                      simp only [Act.put, sA, sZ, sS]
                      refine tk 33 130 (v := .pointer (some ⟨wr.heap.size, 4, none⟩)) rfl rfl (fun W hW => exec_fieldAddr rfl rfl (fa_rl 4 (by omega) _ W)) ?_
                      simp only [Act.put, sA, sZ, sS]
                      refine tk 34 131 (v := .slice pp np cp) rfl rfl (fun W hW => exec_load rfl rfl (run_load1 (w := W) Tryz.underlying27 rfl (belowCell hW (ltOf c4) c4))) ?_
                      simp only [Act.put, sA, sZ, sS]
                      cases b6 with
                      | true =>
                        refine onlyCall 35 132 rfl rfl (by kernel_rfl) rfl (exec_call [.slice pp np cp] rfl rfl Tryz.func34 (by kernel_rfl) (by kernel_rfl)) ?_
                        refine (hpr _ hS29).mono ?_
                        rintro e W35 ⟨rfl, hb35⟩
                        have hS35 := below_trans hS29 hb35
                        refine ⟨_, rfl, .inr hS35, ?_⟩
                        simp only [Act.put, sA, sZ, sS]
                        refine tk 36 133 (v := .bool false) rfl rfl (fun W hW => exec_unot (b := true) rfl rfl) ?_
                        simp only [Act.put, sA, sZ, sS]
                        refine tk 37 134 (v := .bool false) rfl rfl (fun W hW => rfl) ?_
                        simp only [Act.put, sA, sZ, sS]
                        refine tk 38 135 (v := .bool false) rfl rfl (fun W hW => exec_move rfl rfl) ?_
                        simp only [Act.put, sA, sZ, sS]
                        refine tk 39 136 (v := .agg xg) rfl rfl (fun W hW => exec_load rfl rfl (hlg W (belowBlk hW hgl hgx))) ?_
                        simp only [Act.put, sA, sZ, sS]
                        refine tk 40 137 (v := .pointer (some ⟨wr.heap.size, 1, none⟩)) rfl rfl (fun W hW => exec_fieldAddr rfl rfl (fa_rl 1 (by omega) _ W)) ?_
                        simp only [Act.put, sA, sZ, sS]
                        refine tk 41 138 (v := .int .i64 src) rfl rfl (fun W hW => exec_load rfl rfl (run_load1 (w := W) Tryz.underlying2 rfl (belowCell hW (ltOf c1) c1))) ?_
                        simp only [Act.put, sA, sZ, sS]
                        refine onlyCall 42 139 rfl rfl (by kernel_rfl) rfl (exec_call [.agg xg, .int .i64 src] rfl rfl Tryz.func36 (by kernel_rfl) (by kernel_rfl)) ?_
                        refine (hfs _ hS35).mono ?_
                        rintro e W42 ⟨rfl, hb42⟩
                        have hS42 := below_trans hS35 hb42
                        refine ⟨_, rfl, .inr hS42, ?_⟩
                        simp only [Act.put, sA, sZ, sS]
                        cases b7 with
                        | true =>
                          refine tk 43 140 (v := .bool false) rfl rfl (fun W hW => exec_bini rfl rfl rfl (hf7 W)) ?_
                          simp only [Act.put, sA, sZ, sS]
                          refine tk 44 141 (v := .bool false) rfl rfl (fun W hW => rfl) ?_
                          simp only [Act.put, sA, sZ, sS]
                          refine tk 45 142 (v := .bool false) rfl rfl (fun W hW => exec_move rfl rfl) ?_
                          simp only [Act.put, sA, sZ, sS]
                          refine tk 46 143 (v := .agg xg) rfl rfl (fun W hW => exec_load rfl rfl (hlg W (belowBlk hW hgl hgx))) ?_
                          simp only [Act.put, sA, sZ, sS]
                          refine tk 47 144 (v := .pointer (some ⟨wr.heap.size, 2, none⟩)) rfl rfl (fun W hW => exec_fieldAddr rfl rfl (fa_rl 2 (by omega) _ W)) ?_
                          simp only [Act.put, sA, sZ, sS]
                          refine tk 48 145 (v := .int .i64 dst) rfl rfl (fun W hW => exec_load rfl rfl (run_load1 (w := W) Tryz.underlying2 rfl (belowCell hW (ltOf c2) c2))) ?_
                          simp only [Act.put, sA, sZ, sS]
                          refine onlyCall 49 146 rfl rfl (by kernel_rfl) rfl (exec_call [.agg xg, .int .i64 dst] rfl rfl Tryz.func36 (by kernel_rfl) (by kernel_rfl)) ?_
                          refine (hfd _ hS42).mono ?_
                          rintro e W49 ⟨rfl, hb49⟩
                          have hS49 := below_trans hS42 hb49
                          refine ⟨_, rfl, .inr hS49, ?_⟩
                          simp only [Act.put, sA, sZ, sS]
                          cases b8 with
                          | true =>
                            refine tk 50 147 (v := .bool false) rfl rfl (fun W hW => exec_bini rfl rfl rfl (hf8 W)) ?_
                            simp only [Act.put, sA, sZ, sS]
                            refine tk 51 148 (v := .bool false) rfl rfl (fun W hW => rfl) ?_
                            simp only [Act.put, sA, sZ, sS]
                            refine done (by kernel_rfl) ?_ _
                            have HB := Lib.hid (below_trans HB1.out hS49)
                            clear hS hS29 hS35 hb35 hS42 hb42 hS49 hb49 c0 c1 c2 c3 c4 g1 g3 hgx hgl hlg hfs hfd hf7 hf8 c9 hri hpr hi0 hsub h1 h2 h3 h4 hB0 HY 
                            go_wp2
                            go_roundw
                            case rel => exact ⟨j + 1, hlt1, by go_num, Lib.hid ⟨HALL.out.1 rfl, HB.out⟩⟩
                            case measure => simp [intOf]; omega
                          | false =>
                            refine tk 50 147 (v := .bool true) rfl rfl (fun W hW => exec_bini rfl rfl rfl (hf8 W)) ?_
                            simp only [Act.put, sA, sZ, sS]
                            refine tk 51 148 (v := .bool true) rfl rfl (fun W hW => rfl) ?_
                            simp only [Act.put, sA, sZ, sS]
                            refine done (by kernel_rfl) ?_ _
                            have HB := Lib.hid (below_trans HB1.out hS49)
                            clear hS hS29 hS35 hb35 hS42 hb42 hS49 hb49 c0 c1 c2 c3 c4 g1 g3 hgx hgl hlg hfs hfd hf7 hf8 c9 hri hpr hi0 hsub h1 h2 h3 h4 hB0 HY 
                            go_wp2
                            go_ret
                            exact ⟨ret_bool (HALL.out.2 (by simp)).symm, below_trans HX.out.2.2.1 HB.out⟩
                        | false =>
                          refine tk 43 140 (v := .bool true) rfl rfl (fun W hW => exec_bini rfl rfl rfl (hf7 W)) ?_
                          simp only [Act.put, sA, sZ, sS]
                          refine tk 44 141 (v := .bool true) rfl rfl (fun W hW => rfl) ?_
                          simp only [Act.put, sA, sZ, sS]
                          refine tk 45 142 (v := .bool true) rfl rfl (fun W hW => exec_move rfl rfl) ?_
                          simp only [Act.put, sA, sZ, sS]
                          refine tn 46 143 rfl rfl ?_
                          simp only [Act.put, sA, sZ, sS]
                          refine tn 47 144 rfl rfl ?_
                          simp only [Act.put, sA, sZ, sS]
                          refine tn 48 145 rfl rfl ?_
                          simp only [Act.put, sA, sZ, sS]
                          refine onlyNot 49 146 rfl rfl (by kernel_rfl) rfl ?_ (.inr (by assumption))
                          simp only [Act.put, sA, sZ, sS]
                          refine tn 50 147 rfl rfl ?_
                          simp only [Act.put, sA, sZ, sS]
                          refine tk 51 148 (v := .bool true) rfl rfl (fun W hW => rfl) ?_
                          simp only [Act.put, sA, sZ, sS]
                          refine done (by kernel_rfl) ?_ _
                          have HB := Lib.hid (below_trans HB1.out hS42)
                          clear hS hS29 hS35 hb35 hS42 hb42 c0 c1 c2 c3 c4 g1 g3 hgx hgl hlg hfs hfd hf7 hf8 c9 hri hpr hi0 hsub h1 h2 h3 h4 hB0 HY 
                          go_wp2
                          go_ret
                          exact ⟨ret_bool (HALL.out.2 (by simp)).symm, below_trans HX.out.2.2.1 HB.out⟩
                      | false =>
                        refine onlyCall 35 132 rfl rfl (by kernel_rfl) rfl (exec_call [.slice pp np cp] rfl rfl Tryz.func34 (by kernel_rfl) (by kernel_rfl)) ?_
                        refine (hpr _ hS29).mono ?_
                        rintro e W35 ⟨rfl, hb35⟩
                        have hS35 := below_trans hS29 hb35
                        refine ⟨_, rfl, .inr hS35, ?_⟩
                        simp only [Act.put, sA, sZ, sS]
                        refine tk 36 133 (v := .bool true) rfl rfl (fun W hW => exec_unot (b := false) rfl rfl) ?_
                        simp only [Act.put, sA, sZ, sS]
                        refine tk 37 134 (v := .bool true) rfl rfl (fun W hW => rfl) ?_
                        simp only [Act.put, sA, sZ, sS]
                        refine tk 38 135 (v := .bool true) rfl rfl (fun W hW => exec_move rfl rfl) ?_
                        simp only [Act.put, sA, sZ, sS]
                        refine tn 39 136 rfl rfl ?_
                        simp only [Act.put, sA, sZ, sS]
                        refine tn 40 137 rfl rfl ?_
                        simp only [Act.put, sA, sZ, sS]
                        refine tn 41 138 rfl rfl ?_
                        simp only [Act.put, sA, sZ, sS]
                        refine onlyNot 42 139 rfl rfl (by kernel_rfl) rfl ?_ (.inr (by assumption))
                        simp only [Act.put, sA, sZ, sS]
                        refine tn 43 140 rfl rfl ?_
                        simp only [Act.put, sA, sZ, sS]
                        refine tk 44 141 (v := .bool true) rfl rfl (fun W hW => rfl) ?_
                        simp only [Act.put, sA, sZ, sS]
                        refine tk 45 142 (v := .bool true) rfl rfl (fun W hW => exec_move rfl rfl) ?_
                        simp only [Act.put, sA, sZ, sS]
                        refine tn 46 143 rfl rfl ?_
                        simp only [Act.put, sA, sZ, sS]
                        refine tn 47 144 rfl rfl ?_
                        simp only [Act.put, sA, sZ, sS]
                        refine tn 48 145 rfl rfl ?_
                        simp only [Act.put, sA, sZ, sS]
                        refine onlyNot 49 146 rfl rfl (by kernel_rfl) rfl ?_ (.inr (by assumption))
                        simp only [Act.put, sA, sZ, sS]
                        refine tn 50 147 rfl rfl ?_
                        simp only [Act.put, sA, sZ, sS]
                        refine tk 51 148 (v := .bool true) rfl rfl (fun W hW => rfl) ?_
                        simp only [Act.put, sA, sZ, sS]
                        refine done (by kernel_rfl) ?_ _
                        have HB := Lib.hid (below_trans HB1.out hS35)
                        clear hS hS29 hS35 hb35 c0 c1 c2 c3 c4 g1 g3 hgx hgl hlg hfs hfd hf7 hf8 c9 hri hpr hi0 hsub h1 h2 h3 h4 hB0 HY 
                        go_wp2
                        go_ret
                        exact ⟨ret_bool (HALL.out.2 (by simp)).symm, below_trans HX.out.2.2.1 HB.out⟩
                    | false =>
                      refine onlyCall 29 126 rfl rfl (by kernel_rfl) rfl (exec_call [.string (strB ty)] rfl rfl Tryz.func35 (by kernel_rfl) (by kernel_rfl)) ?_
                      refine (hri _).mono ?_
                      rintro e W29 ⟨rfl, rfl⟩
                      have hS29 := hS
                      refine ⟨_, rfl, .inr hS29, ?_⟩
                      simp only [Act.put, sA, sZ, sS]
                      refine tk 30 127 (v := .bool true) rfl rfl (fun W hW => exec_unot (b := false) rfl rfl) ?_
                      simp only [Act.put, sA, sZ, sS]
                      refine tk 31 128 (v := .bool true) rfl rfl (fun W hW => rfl) ?_
                      simp only [Act.put, sA, sZ, sS]
                      refine tk 32 129 (v := .bool true) rfl rfl (fun W hW => exec_move rfl rfl) ?_
                      simp only [Act.put, sA, sZ, sS]
                      refine tn 33 130 rfl rfl ?_
                      simp only [Act.put, sA, sZ, sS]
                      refine tn 34 131 rfl rfl ?_
                      simp only [Act.put, sA, sZ, sS]
                      refine onlyNot 35 132 rfl rfl (by kernel_rfl) rfl ?_ (.inr (by assumption))
                      simp only [Act.put, sA, sZ, sS]
                      refine tn 36 133 rfl rfl ?_
                      simp only [Act.put, sA, sZ, sS]
                      refine tk 37 134 (v := .bool true) rfl rfl (fun W hW => rfl) ?_
                      simp only [Act.put, sA, sZ, sS]
                      refine tk 38 135 (v := .bool true) rfl rfl (fun W hW => exec_move rfl rfl) ?_
                      simp only [Act.put, sA, sZ, sS]
                      refine tn 39 136 rfl rfl ?_
                      simp only [Act.put, sA, sZ, sS]
                      refine tn 40 137 rfl rfl ?_
                      simp only [Act.put, sA, sZ, sS]
                      refine tn 41 138 rfl rfl ?_
                      simp only [Act.put, sA, sZ, sS]
                      refine onlyNot 42 139 rfl rfl (by kernel_rfl) rfl ?_ (.inr (by assumption))
                      simp only [Act.put, sA, sZ, sS]
                      refine tn 43 140 rfl rfl ?_
                      simp only [Act.put, sA, sZ, sS]
                      refine tk 44 141 (v := .bool true) rfl rfl (fun W hW => rfl) ?_
                      simp only [Act.put, sA, sZ, sS]
                      refine tk 45 142 (v := .bool true) rfl rfl (fun W hW => exec_move rfl rfl) ?_
                      simp only [Act.put, sA, sZ, sS]
                      refine tn 46 143 rfl rfl ?_
                      simp only [Act.put, sA, sZ, sS]
                      refine tn 47 144 rfl rfl ?_
                      simp only [Act.put, sA, sZ, sS]
                      refine tn 48 145 rfl rfl ?_
                      simp only [Act.put, sA, sZ, sS]
                      refine onlyNot 49 146 rfl rfl (by kernel_rfl) rfl ?_ (.inr (by assumption))
                      simp only [Act.put, sA, sZ, sS]
                      refine tn 50 147 rfl rfl ?_
                      simp only [Act.put, sA, sZ, sS]
                      refine tk 51 148 (v := .bool true) rfl rfl (fun W hW => rfl) ?_
                      simp only [Act.put, sA, sZ, sS]
                      refine done (by kernel_rfl) ?_ _
                      have HB := Lib.hid (below_trans HB1.out hS29)
                      clear hS hS29 c0 c1 c2 c3 c4 g1 g3 hgx hgl hlg hfs hfd hf7 hf8 c9 hri hpr hi0 hsub h1 h2 h3 h4 hB0 HY 
                      go_wp2
                      go_ret
                      exact ⟨ret_bool (HALL.out.2 (by simp)).symm, below_trans HX.out.2.2.1 HB.out⟩
                | false =>
                  refine tk 12 109 (v := .bool false) rfl rfl (fun W hW => exec_bini rfl rfl rfl (h3 W)) ?_
                  simp only [Act.put, sA, sZ, sS]
                  refine tk 13 110 (v := .bool false) rfl rfl (fun W hW => exec_move rfl rfl) ?_
                  simp only [Act.put, sA, sZ, sS]
                  refine tn 14 111 rfl rfl ?_
                  simp only [Act.put, sA, sZ, sS]
                  refine tn 15 112 rfl rfl ?_
                  simp only [Act.put, sA, sZ, sS]
                  refine tn 16 113 rfl rfl ?_
                  simp only [Act.put, sA, sZ, sS]
                  refine tn 17 114 rfl rfl ?_
                  simp only [Act.put, sA, sZ, sS]
                  refine tn 18 115 rfl rfl ?_
                  simp only [Act.put, sA, sZ, sS]
                  refine tn 19 116 rfl rfl ?_
                  simp only [Act.put, sA, sZ, sS]
                  refine tn 20 117 rfl rfl ?_
                  simp only [Act.put, sA, sZ, sS]
                  refine tn 21 118 rfl rfl ?_
                  simp only [Act.put, sA, sZ, sS]
                  refine tn 22 119 rfl rfl ?_
                  simp only [Act.put, sA, sZ, sS]
                  refine tn 23 120 rfl rfl ?_
                  simp only [Act.put, sA, sZ, sS]
                  refine tk 24 121 (v := .bool false) rfl rfl (fun W hW => rfl) ?_
                  simp only [Act.put, sA, sZ, sS]
                  refine tk 25 122 (v := .bool false) rfl rfl (fun W hW => rfl) ?_
                  simp only [Act.put, sA, sZ, sS]
                  refine tk 26 123 (v := .bool false) rfl rfl (fun W hW => exec_move rfl rfl) ?_
                  simp only [Act.put, sA, sZ, sS]
                  refine tk 27 124 (v := .pointer (some ⟨wr.heap.size, 3, none⟩)) rfl rfl (fun W hW => exec_fieldAddr rfl rfl (fa_rl 3 (by omega) _ W)) ?_
                  simp only [Act.put, sA, sZ, sS]
                  refine tk 28 125 (v := .string (strB ty)) rfl rfl (fun W hW => exec_load rfl rfl (run_load1 (w := W) Tryz.underlying9 rfl (belowCell hW (ltOf c3) c3))) ?_
                  simp only [Act.put, sA, sZ, sS]
                  cases b5 with
                  | true =>
                    refine onlyCall 29 126 rfl rfl (by kernel_rfl) rfl (exec_call [.string (strB ty)] rfl rfl Tryz.func35 (by kernel_rfl) (by kernel_rfl)) ?_
                    refine (hri _).mono ?_
                    rintro e W29 ⟨rfl, rfl⟩
                    have hS29 := hS
                    refine ⟨_, rfl, .inr hS29, ?_⟩
                    simp only [Act.put, sA, sZ, sS]
                    refine tk 30 127 (v := .bool false) rfl rfl (fun W hW => exec_unot (b := true) rfl rfl) ?_
                    simp only [Act.put, sA, sZ, sS]
                    refine tk 31 128 (v := .bool false) rfl rfl (fun W hW => rfl) ?_
                    simp only [Act.put, sA, sZ, sS]
                    refine tk 32 129 (v := .bool false) rfl rfl (fun W hW => exec_move rfl rfl) ?_
                    simp only [Act.put, sA, sZ, sS]
                    refine tk 33 130 (v := .pointer (some ⟨wr.heap.size, 4, none⟩)) rfl rfl (fun W hW => exec_fieldAddr rfl rfl (fa_rl 4 (by omega) _ W)) ?_
                    simp only [Act.put, sA, sZ, sS]
                    refine tk 34 131 (v := .slice pp np cp) rfl rfl (fun W hW => exec_load rfl rfl (run_load1 (w := W) Tryz.underlying27 rfl (belowCell hW (ltOf c4) c4))) ?_
                    simp only [Act.put, sA, sZ, sS]
                    cases b6 with
                    | true =>
                      refine onlyCall 35 132 rfl rfl (by kernel_rfl) rfl (exec_call [.slice pp np cp] rfl rfl Tryz.func34 (by kernel_rfl) (by kernel_rfl)) ?_
                      refine (hpr _ hS29).mono ?_
                      rintro e W35 ⟨rfl, hb35⟩
                      have hS35 := below_trans hS29 hb35
                      refine ⟨_, rfl, .inr hS35, ?_⟩
                      simp only [Act.put, sA, sZ, sS]
                      refine tk 36 133 (v := .bool false) rfl rfl (fun W hW => exec_unot (b := true) rfl rfl) ?_
                      simp only [Act.put, sA, sZ, sS]
                      refine tk 37 134 (v := .bool false) rfl rfl (fun W hW => rfl) ?_
                      simp only [Act.put, sA, sZ, sS]
                      refine tk 38 135 (v := .bool false) rfl rfl (fun W hW => exec_move rfl rfl) ?_
                      simp only [Act.put, sA, sZ, sS]
                      refine tk 39 136 (v := .agg xg) rfl rfl (fun W hW => exec_load rfl rfl (hlg W (belowBlk hW hgl hgx))) ?_
                      simp only [Act.put, sA, sZ, sS]
                      refine tk 40 137 (v := .pointer (some ⟨wr.heap.size, 1, none⟩)) rfl rfl (fun W hW => exec_fieldAddr rfl rfl (fa_rl 1 (by omega) _ W)) ?_
                      simp only [Act.put, sA, sZ, sS]
                      refine tk 41 138 (v := .int .i64 src) rfl rfl (fun W hW => exec_load rfl rfl (run_load1 (w := W) Tryz.underlying2 rfl (belowCell hW (ltOf c1) c1))) ?_
                      simp only [Act.put, sA, sZ, sS]
                      refine onlyCall 42 139 rfl rfl (by kernel_rfl) rfl (exec_call [.agg xg, .int .i64 src] rfl rfl Tryz.func36 (by kernel_rfl) (by kernel_rfl)) ?_
                      refine (hfs _ hS35).mono ?_
                      rintro e W42 ⟨rfl, hb42⟩
                      have hS42 := below_trans hS35 hb42
                      refine ⟨_, rfl, .inr hS42, ?_⟩
                      simp only [Act.put, sA, sZ, sS]
                      cases b7 with
                      | true =>
                        refine tk 43 140 (v := .bool false) rfl rfl (fun W hW => exec_bini rfl rfl rfl (hf7 W)) ?_
                        simp only [Act.put, sA, sZ, sS]
                        refine tk 44 141 (v := .bool false) rfl rfl (fun W hW => rfl) ?_
                        simp only [Act.put, sA, sZ, sS]
                        refine tk 45 142 (v := .bool false) rfl rfl (fun W hW => exec_move rfl rfl) ?_
                        simp only [Act.put, sA, sZ, sS]
                        refine tk 46 143 (v := .agg xg) rfl rfl (fun W hW => exec_load rfl rfl (hlg W (belowBlk hW hgl hgx))) ?_
                        simp only [Act.put, sA, sZ, sS]
                        refine tk 47 144 (v := .pointer (some ⟨wr.heap.size, 2, none⟩)) rfl rfl (fun W hW => exec_fieldAddr rfl rfl (fa_rl 2 (by omega) _ W)) ?_
                        simp only [Act.put, sA, sZ, sS]
                        refine tk 48 145 (v := .int .i64 dst) rfl rfl (fun W hW => exec_load rfl rfl (run_load1 (w := W) Tryz.underlying2 rfl (belowCell hW (ltOf c2) c2))) ?_
                        simp only [Act.put, sA, sZ, sS]
                        refine onlyCall 49 146 rfl rfl (by kernel_rfl) rfl (exec_call [.agg xg, .int .i64 dst] rfl rfl Tryz.func36 (by kernel_rfl) (by kernel_rfl)) ?_
                        refine (hfd _ hS42).mono ?_
                        rintro e W49 ⟨rfl, hb49⟩
                        have hS49 := below_trans hS42 hb49
                        refine ⟨_, rfl, .inr hS49, ?_⟩
                        simp only [Act.put, sA, sZ, sS]
                        cases b8 with
                        | true =>
                          refine tk 50 147 (v := .bool false) rfl rfl (fun W hW => exec_bini rfl rfl rfl (hf8 W)) ?_
                          simp only [Act.put, sA, sZ, sS]
                          refine tk 51 148 (v := .bool false) rfl rfl (fun W hW => rfl) ?_
                          simp only [Act.put, sA, sZ, sS]
                          refine done (by kernel_rfl) ?_ _
                          have HB := Lib.hid (below_trans HB1.out hS49)
                          clear hS hS29 hS35 hb35 hS42 hb42 hS49 hb49 c0 c1 c2 c3 c4 g1 g3 hgx hgl hlg hfs hfd hf7 hf8 c9 hri hpr hi0 hsub h1 h2 h3 h4 hB0 HY 
                          go_wp2
                          go_roundw
                          case rel => exact ⟨j + 1, hlt1, by go_num, Lib.hid ⟨HALL.out.1 rfl, HB.out⟩⟩
                          case measure => simp [intOf]; omega
                        | false =>
                          refine tk 50 147 (v := .bool true) rfl rfl (fun W hW => exec_bini rfl rfl rfl (hf8 W)) ?_
                          simp only [Act.put, sA, sZ, sS]
                          refine tk 51 148 (v := .bool true) rfl rfl (fun W hW => rfl) ?_
                          simp only [Act.put, sA, sZ, sS]
                          refine done (by kernel_rfl) ?_ _
                          have HB := Lib.hid (below_trans HB1.out hS49)
                          clear hS hS29 hS35 hb35 hS42 hb42 hS49 hb49 c0 c1 c2 c3 c4 g1 g3 hgx hgl hlg hfs hfd hf7 hf8 c9 hri hpr hi0 hsub h1 h2 h3 h4 hB0 HY 
                          go_wp2
                          go_ret
                          exact ⟨ret_bool (HALL.out.2 (by simp)).symm, below_trans HX.out.2.2.1 HB.out⟩
                      | false =>
                        refine tk 43 140 (v := .bool true) rfl rfl (fun W hW => exec_bini rfl rfl rfl (hf7 W)) ?_
                        simp only [Act.put, sA, sZ, sS]
                        refine tk 44 141 (v := .bool true) rfl rfl (fun W hW => rfl) ?_
                        simp only [Act.put, sA, sZ, sS]
                        refine tk 45 142 (v := .bool true) rfl rfl (fun W hW => exec_move rfl rfl) ?_
                        simp only [Act.put, sA, sZ, sS]
                        refine tn 46 143 rfl rfl ?_
                        simp only [Act.put, sA, sZ, sS]
                        refine tn 47 144 rfl rfl ?_
                        simp only [Act.put, sA, sZ, sS]
                        refine tn 48 145 rfl rfl ?_
                        simp only [Act.put, sA, sZ, sS]
                        refine onlyNot 49 146 rfl rfl (by kernel_rfl) rfl ?_ (.inr (by assumption))
                        simp only [Act.put, sA, sZ, sS]
                        refine tn 50 147 rfl rfl ?_
                        simp only [Act.put, sA, sZ, sS]
                        refine tk 51 148 (v := .bool true) rfl rfl (fun W hW => rfl) ?_
                        simp only [Act.put, sA, sZ, sS]
                        refine done (by kernel_rfl) ?_ _
                        have HB := Lib.hid (below_trans HB1.out hS42)
                        clear hS hS29 hS35 hb35 hS42 hb42 c0 c1 c2 c3 c4 g1 g3 hgx hgl hlg hfs hfd hf7 hf8 c9 hri hpr hi0 hsub h1 h2 h3 h4 hB0 HY 
                        go_wp2
                        go_ret
                        exact ⟨ret_bool (HALL.out.2 (by simp)).symm, below_trans HX.out.2.2.1 HB.out⟩
                    | false =>
                      refine onlyCall 35 132 rfl rfl (by kernel_rfl) rfl (exec_call [.slice pp np cp] rfl rfl Tryz.func34 (by kernel_rfl) (by kernel_rfl)) ?_
                      refine (hpr _ hS29).mono ?_
                      rintro e W35 ⟨rfl, hb35⟩
                      have hS35 := below_trans hS29 hb35
                      refine ⟨_, rfl, .inr hS35, ?_⟩
                      simp only [Act.put, sA, sZ, sS]
                      refine tk 36 133 (v := .bool true) rfl rfl (fun W hW => exec_unot (b := false) rfl rfl) ?_
                      simp only [Act.put, sA, sZ, sS]
                      refine tk 37 134 (v := .bool true) rfl rfl (fun W hW => rfl) ?_
                      simp only [Act.put, sA, sZ, sS]
                      refine tk 38 135 (v := .bool true) rfl rfl (fun W hW => exec_move rfl rfl) ?_
                      simp only [Act.put, sA, sZ, sS]
                      refine tn 39 136 rfl rfl ?_
                      simp only [Act.put, sA, sZ, sS]
                      refine tn 40 137 rfl rfl ?_
                      simp only [Act.put, sA, sZ, sS]
                      refine tn 41 138 rfl rfl ?_
                      simp only [Act.put, sA, sZ, sS]
                      refine onlyNot 42 139 rfl rfl (by kernel_rfl) rfl ?_ (.inr (by assumption))
                      simp only [Act.put, sA, sZ, sS]
                      refine tn 43 140 rfl rfl ?_
                      simp only [Act.put, sA, sZ, sS]
                      refine tk 44 141 (v := .bool true) rfl rfl (fun W hW => rfl) ?_
                      simp only [Act.put, sA, sZ, sS]
                      refine tk 45 142 (v := .bool true) rfl rfl (fun W hW => exec_move rfl rfl) ?_
                      simp only [Act.put, sA, sZ, sS]
                      refine tn 46 143 rfl rfl ?_
                      simp only [Act.put, sA, sZ, sS]
                      refine tn 47 144 rfl rfl ?_
                      simp only [Act.put, sA, sZ, sS]
                      refine tn 48 145 rfl rfl ?_
                      simp only [Act.put, sA, sZ, sS]
                      refine onlyNot 49 146 rfl rfl (by kernel_rfl) rfl ?_ (.inr (by assumption))
                      simp only [Act.put, sA, sZ, sS]
                      refine tn 50 147 rfl rfl ?_
                      simp only [Act.put, sA, sZ, sS]
                      refine tk 51 148 (v := .bool true) rfl rfl (fun W hW => rfl) ?_
                      simp only [Act.put, sA, sZ, sS]
                      refine done (by kernel_rfl) ?_ _
                      have HB := Lib.hid (below_trans HB1.out hS35)
                      clear hS hS29 hS35 hb35 c0 c1 c2 c3 c4 g1 g3 hgx hgl hlg hfs hfd hf7 hf8 c9 hri hpr hi0 hsub h1 h2 h3 h4 hB0 HY 
                      go_wp2
                      go_ret
                      exact ⟨ret_bool (HALL.out.2 (by simp)).symm, below_trans HX.out.2.2.1 HB.out⟩
                  | false =>
                    refine onlyCall 29 126 rfl rfl (by kernel_rfl) rfl (exec_call [.string (strB ty)] rfl rfl Tryz.func35 (by kernel_rfl) (by kernel_rfl)) ?_
                    refine (hri _).mono ?_
                    rintro e W29 ⟨rfl, rfl⟩
                    have hS29 := hS
                    refine ⟨_, rfl, .inr hS29, ?_⟩
                    simp only [Act.put, sA, sZ, sS]
                    refine tk 30 127 (v := .bool true) rfl rfl (fun W hW => exec_unot (b := false) rfl rfl) ?_
                    simp only [Act.put, sA, sZ, sS]
                    refine tk 31 128 (v := .bool true) rfl rfl (fun W hW => rfl) ?_
                    simp only [Act.put, sA, sZ, sS]
                    refine tk 32 129 (v := .bool true) rfl rfl (fun W hW => exec_move rfl rfl) ?_
                    simp only [Act.put, sA, sZ, sS]
                    refine tn 33 130 rfl rfl ?_
                    simp only [Act.put, sA, sZ, sS]
                    refine tn 34 131 rfl rfl ?_
                    simp only [Act.put, sA, sZ, sS]
                    refine onlyNot 35 132 rfl rfl (by kernel_rfl) rfl ?_ (.inr (by assumption))
                    simp only [Act.put, sA, sZ, sS]
                    refine tn 36 133 rfl rfl ?_
                    simp only [Act.put, sA, sZ, sS]
                    refine tk 37 134 (v := .bool true) rfl rfl (fun W hW => rfl) ?_
                    simp only [Act.put, sA, sZ, sS]
                    refine tk 38 135 (v := .bool true) rfl rfl (fun W hW => exec_move rfl rfl) ?_
                    simp only [Act.put, sA, sZ, sS]
                    refine tn 39 136 rfl rfl ?_
                    simp only [Act.put, sA, sZ, sS]
                    refine tn 40 137 rfl rfl ?_
                    simp only [Act.put, sA, sZ, sS]
                    refine tn 41 138 rfl rfl ?_
                    simp only [Act.put, sA, sZ, sS]
                    refine onlyNot 42 139 rfl rfl (by kernel_rfl) rfl ?_ (.inr (by assumption))
                    simp only [Act.put, sA, sZ, sS]
                    refine tn 43 140 rfl rfl ?_
                    simp only [Act.put, sA, sZ, sS]
                    refine tk 44 141 (v := .bool true) rfl rfl (fun W hW => rfl) ?_
                    simp only [Act.put, sA, sZ, sS]
                    refine tk 45 142 (v := .bool true) rfl rfl (fun W hW => exec_move rfl rfl) ?_
                    simp only [Act.put, sA, sZ, sS]
                    refine tn 46 143 rfl rfl ?_
                    simp only [Act.put, sA, sZ, sS]
                    refine tn 47 144 rfl rfl ?_
                    simp only [Act.put, sA, sZ, sS]
                    refine tn 48 145 rfl rfl ?_
                    simp only [Act.put, sA, sZ, sS]
                    refine onlyNot 49 146 rfl rfl (by kernel_rfl) rfl ?_ (.inr (by assumption))
                    simp only [Act.put, sA, sZ, sS]
                    refine tn 50 147 rfl rfl ?_
                    simp only [Act.put, sA, sZ, sS]
                    refine tk 51 148 (v := .bool true) rfl rfl (fun W hW => rfl) ?_
                    simp only [Act.put, sA, sZ, sS]
                    refine done (by kernel_rfl) ?_ _
                    have HB := Lib.hid (below_trans HB1.out hS29)
                    clear hS hS29 c0 c1 c2 c3 c4 g1 g3 hgx hgl hlg hfs hfd hf7 hf8 c9 hri hpr hi0 hsub h1 h2 h3 h4 hB0 HY 
                    go_wp2
                    go_ret
                    exact ⟨ret_bool (HALL.out.2 (by simp)).symm, below_trans HX.out.2.2.1 HB.out⟩
          · obtain rfl : j = g.rels.length := by omega
            have HF := Lib.hid (okG_all HSZ.out HN.out HJ.out.1)
            have q1 := belowCell HJ.out.2 (ltOf HX.out.2.2.2.2.2.1) HX.out.2.2.2.2.2.1
            have HB := Lib.hid (below_trans HX.out.2.2.1 HJ.out.2)
            clear HJ
            go_wp2
            go_ret
            exact ⟨ret_bool HF.out.symm, HB.out⟩
end Go.Proofs.YtihfnegakcghiaaGreatDoor
namespace Go.Proofs.YtihfnegakcghiaaGreatDoor
theorem all2_of {α β : Type} {f : α → β → Bool} : ∀ {l : List α} {m : List β}, l.length = m.length → (∀ i (h1 : i < l.length) (h2 : i < m.length), f l[i] m[i] = true) → all2 f l m = true
  | [], [], _, _ => rfl
  | [], _ :: _, h, _ => by simp at h
  | _ :: _, [], h, _ => by simp at h
  | a :: x, b :: y, h, g => by
    rw [all2, Bool.and_eq_true]
    exact ⟨g 0 (by simp) (by simp), all2_of (by simpa using h) fun i h1 h2 => g (i + 1) (by simpa using h1) (by simpa using h2)⟩
theorem all2_no {α β : Type} {f : α → β → Bool} : ∀ {l : List α} {m : List β} {j : Nat} (h1 : j < l.length) (h2 : j < m.length), f l[j] m[j] = false → all2 f l m = false
  | [], _, j, h1, _, _ => by simp at h1
  | _ :: _, [], j, _, h2, _ => by simp at h2
  | a :: x, b :: y, 0, _, _, h => by rw [all2, show f a b = false from h]; rfl
  | a :: x, b :: y, j + 1, h1, h2, h => by rw [all2, all2_no (j := j) (by simpa using h1) (by simpa using h2) h, Bool.and_false]
theorem all2_ne {α β : Type} {f : α → β → Bool} {l : List α} {m : List β} (h : l.length ≠ m.length) : all2 f l m = false := by
  cases e : all2 f l m with
  | false => rfl
  | true => exact absurd (all2_len e) h
end Go.Proofs.YtihfnegakcghiaaGreatDoor
namespace Go.Proofs.YtihfnegakcghiaaGreatDoor
open Go.RowKit
theorem nes_bytesD (a b : List UInt8) (W : World) : (binOp .neq 9 (.string (strB a)) (.string (strB b))).run Tryz.prog W = .ok (.bool (!decide (a = b))) W := by
  have e : (strB a = strB b) ↔ a = b := strB_inj
  by_cases h : a = b
  · subst h; simp [go_sem]
  · rw [decide_eq_false h]
    simp [go_sem, strB_toList, h]
theorem alikeD_any : ∀ (v u : V) (w : World) (x y : Array Value), VRd w v x → VRd w u y →
    Calls Tryz.prog 166 #[.agg x, .agg y] w fun e w' => e = .returned (.bool (alikeV v u)) ∧ Below w.heap.size w w' := by
  refine V.ind fun k b n t ks l ih => ?_
  intro u w x y hx hy
  cases u with
  | mk k' b' n' t' ks' l' =>
  have hal : alikeV (.mk k b n t ks l) (.mk k' b' n' t' ks' l') = (decide (k = k') && decide (b = b') && decide (n = n') && decide (t = t') && decide (ks = ks') && alikeVs l l') := by rw [alikeV]; rfl
  rw [hal]
  clear hal
  obtain ⟨pk, ck, pl, cl, rfl, htx, hk1, hl1⟩ := VRd_iff.1 hx
  obtain ⟨qk, dk, ql, dl, rfl, hty, hk2, hl2⟩ := VRd_iff.1 hy
  clear hx hy
  have z1 : (ks.length : Int) ≤ 140737488355328 := by have := hk1.2.1.1; omega
  have z2 : (l.length : Int) ≤ 140737488355328 := by have := hl1.1.2.1.1; omega
  have z3 : (ks'.length : Int) ≤ 140737488355328 := by have := hk2.2.1.1; omega
  have z4 : (l'.length : Int) ≤ 140737488355328 := by have := hl2.1.2.1.1; omega
  have hb1 := below_new (w := w) (.cells #[.int .i64 k, .bool b, .int .i64 n, .string (strB t), .slice pk ks.length ck, .slice pl l.length cl] 31)
  have hb2 := below_new (w := w.alloc (.cells #[.int .i64 k, .bool b, .int .i64 n, .string (strB t), .slice pk ks.length ck, .slice pl l.length cl] 31)) (.cells #[.int .i64 k', .bool b', .int .i64 n', .string (strB t'), .slice qk ks'.length dk, .slice ql l'.length dl] 31)
  have hbc : Below w.heap.size w ((w.alloc (.cells #[.int .i64 k, .bool b, .int .i64 n, .string (strB t), .slice pk ks.length ck, .slice pl l.length cl] 31)).alloc (.cells #[.int .i64 k', .bool b', .int .i64 n', .string (strB t'), .slice qk ks'.length dk, .slice ql l'.length dl] 31)) := below_trans hb1 hb2
  have hx8 := belowBlk hb2 (by simp) (heap_alloc_new w (.cells #[.int .i64 k, .bool b, .int .i64 n, .string (strB t), .slice pk ks.length ck, .slice pl l.length cl] 31))
  have hx9 := heap_alloc_new (w.alloc (.cells #[.int .i64 k, .bool b, .int .i64 n, .string (strB t), .slice pk ks.length ck, .slice pl l.length cl] 31)) (.cells #[.int .i64 k', .bool b', .int .i64 n', .string (strB t'), .slice qk ks'.length dk, .slice ql l'.length dl] 31)
  simp only [World.size_alloc] at hx9
  have HG := Lib.hid (And.intro hx8 hx9)
  have HB := Lib.hid hbc
  have HIH := Lib.hid (fun (a : V) (ha : a ∈ l) => ih a ha)
  have HK1 := Lib.hid (hk1.below hbc)
  have HK2 := Lib.hid (hk2.below hbc)
  have HL1 := Lib.hid (hl1.below hbc)
  have HL2 := Lib.hid (hl2.below hbc)
  clear ih hk1 hk2 hl1 hl2 hb1 hb2 hbc hx8 hx9 htx hty
  by_cases h0 : k = k'
  rotate_left
  · have f0 : (k != k') = true := by rw [bne_iff_ne]; exact h0
    have HNE := Lib.hid h0
    clear h0
    go_enter Tryz.func166, Tryz.ntmps166
    go_wp2
    go_ret
    exact ⟨by simp [HNE.out], HB.out⟩
  subst h0
  by_cases h1 : b = b'
  rotate_left
  · have HNE := Lib.hid h1
    cases b <;> cases b' <;> first | exact absurd rfl h1 | skip
    all_goals
      clear h1
      go_enter Tryz.func166, Tryz.ntmps166
      go_wp2
      go_ret
      exact ⟨by simp [HNE.out], HB.out⟩
  subst h1
  by_cases h2 : n = n'
  rotate_left
  · have f0 : (n != n') = true := by rw [bne_iff_ne]; exact h2
    have HNE := Lib.hid h2
    clear h2
    go_enter Tryz.func166, Tryz.ntmps166
    go_wp2
    go_ret
    exact ⟨by simp [HNE.out], HB.out⟩
  subst h2
  by_cases h3 : t = t'
  rotate_left
  · have f0 : ((strB t).toList == (strB t').toList) = false := by rw [strB_toList, strB_toList, beq_eq_false_iff_ne]; exact h3
    have f1 : ((strB t).toList != (strB t').toList) = true := by rw [bne, f0]; rfl
    have HNE := Lib.hid h3
    clear h3
    generalize strB t = s1 at *
    generalize strB t' = s2 at *
    go_enter Tryz.func166, Tryz.ntmps166
    go_wp2
    go_ret
    exact ⟨by simp [HNE.out], HB.out⟩
  subst h3
  by_cases h4 : ks.length = ks'.length
  rotate_left
  · have f0 : ((ks.length : Int) != (ks'.length : Int)) = true := by rw [bne_iff_ne]; omega
    have HNE := Lib.hid (show ¬ ks = ks' from fun e => h4 (by rw [e]))
    clear h4
    go_enter Tryz.func166, Tryz.ntmps166
    go_wp2
    go_ret
    exact ⟨by simp [HNE.out], HB.out⟩
  by_cases h5 : l.length = l'.length
  rotate_left
  · have f0 : ((l.length : Int) != (l'.length : Int)) = true := by rw [bne_iff_ne]; omega
    have HNE := Lib.hid (show alikeVs l l' = false from by rw [alikeVs_all2, all2_ne h5])
    have f1 : ((ks.length : Int) != (ks'.length : Int)) = false := by rw [h4]; simp
    clear h5 h4
    go_enter Tryz.func166, Tryz.ntmps166
    go_wp2
    go_ret
    exact ⟨by simp [HNE.out], HB.out⟩
  have f0 : ((ks.length : Int) != (ks'.length : Int)) = false := by rw [h4]; simp
  have f1 : ((l.length : Int) != (l'.length : Int)) = false := by rw [h5]; simp
  have HLK := Lib.hid h4
  have HLL := Lib.hid h5
  clear h4 h5
  simp only [decide_true, Bool.true_and]
  go_enter Tryz.func166, Tryz.ntmps166
  go_wp2
  generalize hW0 : (w.alloc (.cells #[.int .i64 k, .bool b, .int .i64 n, .string (strB t), .slice pk ks.length ck, .slice pl l.length cl] 31)).alloc (.cells #[.int .i64 k, .bool b, .int .i64 n, .string (strB t), .slice qk ks'.length dk, .slice ql l'.length dl] 31) = W0 at *
  clear hW0
  go_loopw [5] (fun i W => ∃ j : Nat, j ≤ ks.length ∧ i = .int .i64 (j : Int) ∧ Hid (ks.take j = ks'.take j ∧ Below W0.heap.size W0 W)) (fun i _ => ks.length - (intOf i).toNat)
  case atStart => exact ⟨0, Nat.zero_le _, rfl, Lib.hid ⟨by simp, Below.refl _ _⟩⟩
  case round =>
    obtain ⟨j, hj, rfl, HI⟩ := hrel
    obtain ⟨hg8, hg9⟩ := HG.out
    have p4 := cellOf (o := 4) (belowBlk HI.out.2 (Array.getElem?_eq_some_iff.1 hg8).1 hg8) rfl
    clear hg8 hg9
    by_cases hlt : j < ks.length
    · have hlt1 : j + 1 ≤ ks.length := hlt
      have hlt2 : j < ks'.length := by rw [← HLK.out]; exact hlt
      obtain ⟨bk, ok, rfl, q0, _⟩ := HK1.out.get hlt
      obtain ⟨bk', ok', rfl, q1, _⟩ := HK2.out.get hlt2
      have hstep : ks[j] = ks'[j] → ks.take (j + 1) = ks'.take (j + 1) := fun e => by rw [List.take_succ_eq_append_getElem hlt, List.take_succ_eq_append_getElem hlt2, HI.out.1, e]
      have hdiff : ks[j] ≠ ks'[j] → ks ≠ ks' := fun e e2 => by subst e2; exact e rfl
      have hnes := nes_bytesD ks[j] ks'[j]
      generalize ks[j] = a1 at *
      generalize ks'[j] = a2 at *
      have hS0 : Below W0.heap.size W0 wr.drew := HI.out.2.drew
      have hix : ∀ W' : World, (Instr.indexAt 26 (.slice (some ⟨bk, ok, none⟩) ks.length ck) (.int .i64 (j : Int))).run Tryz.prog W' = .ok (.pointer (some ⟨bk, ok + j, none⟩)) W' := by intro W'; simp [go_sem, hlt]
      have hiy : ∀ W' : World, (Instr.indexAt 26 (.slice (some ⟨bk', ok', none⟩) ks'.length dk) (.int .i64 (j : Int))).run Tryz.prog W' = .ok (.pointer (some ⟨bk', ok' + j, none⟩)) W' := by intro W'; simp [go_sem, hlt2]
      have hf4 : ∀ (g : Nat) (W' : World), (Instr.fieldAt 31 (.pointer (some ⟨g, 0, none⟩)) 4).run Tryz.prog W' = .ok (.pointer (some ⟨g, 4, none⟩)) W' := by intro g W'; simp [go_sem]
      have HX := Lib.hid (And.intro q0 (And.intro q1 (And.intro hstep (And.intro hdiff (And.intro hnes (And.intro hS0 (And.intro hix (And.intro hiy hf4))))))))
      clear q0 q1 hstep hdiff hnes hS0 hix hiy hf4 HI
      go_wp2
      obtain ⟨q0, q1, hstep, hdiff, hnes, hS0, hix, hiy, hf4⟩ := HX.out
      obtain ⟨hg8, hg9⟩ := HG.out
      refine plain_region_draws (fun W => Below W0.heap.size W0 W) (by kernel_rfl) hS0 (fun hS => ?_)
      by_cases he : a1 = a2
      · have hne : ∀ W, (binOp .neq 9 (.string (strB a1)) (.string (strB a2))).run Tryz.prog W = .ok (.bool false) W := fun W => by rw [hnes, decide_eq_true he]; rfl
        refine tk 0 58 (v := .pointer (some ⟨w.heap.size, 4, none⟩)) rfl rfl (fun W hW => exec_fieldAddr rfl rfl (hf4 _ W)) ?_
        simp only [Act.put, sA, sZ, sS]
        refine tk 1 59 (v := .slice (some ⟨bk, ok, none⟩) ks.length ck) rfl rfl (fun W hW => exec_load rfl rfl (ld_cell Tryz.underlying26 rfl hW hg8 rfl)) ?_
        simp only [Act.put, sA, sZ, sS]
        refine tk 2 60 (v := .int .i64 (j : Int)) rfl rfl (fun W hW => exec_move rfl rfl) ?_
        simp only [Act.put, sA, sZ, sS]
        refine tk 3 61 (v := .pointer (some ⟨bk, ok + j, none⟩)) rfl rfl (fun W hW => exec_indexAddr rfl rfl rfl (hix W)) ?_
        simp only [Act.put, sA, sZ, sS]
        refine tk 4 62 (v := .string (strB a1)) rfl rfl (fun W hW => exec_load rfl rfl (run_load1 Tryz.underlying9 rfl (belowCell hW (ltOf q0) q0))) ?_
        simp only [Act.put, sA, sZ, sS]
        refine tk 5 63 (v := .pointer (some ⟨w.heap.size + 1, 4, none⟩)) rfl rfl (fun W hW => exec_fieldAddr rfl rfl (hf4 _ W)) ?_
        simp only [Act.put, sA, sZ, sS]
        refine tk 6 64 (v := .slice (some ⟨bk', ok', none⟩) ks'.length dk) rfl rfl (fun W hW => exec_load rfl rfl (ld_cell Tryz.underlying26 rfl hW hg9 rfl)) ?_
        simp only [Act.put, sA, sZ, sS]
        refine tk 7 65 (v := .int .i64 (j : Int)) rfl rfl (fun W hW => exec_move rfl rfl) ?_
        simp only [Act.put, sA, sZ, sS]
        refine tk 8 66 (v := .pointer (some ⟨bk', ok' + j, none⟩)) rfl rfl (fun W hW => exec_indexAddr rfl rfl rfl (hiy W)) ?_
        simp only [Act.put, sA, sZ, sS]
        refine tk 9 67 (v := .string (strB a2)) rfl rfl (fun W hW => exec_load rfl rfl (run_load1 Tryz.underlying9 rfl (belowCell hW (ltOf q1) q1))) ?_
        simp only [Act.put, sA, sZ, sS]
        refine tk 10 68 (v := .bool false) rfl rfl (fun W hW => exec_bins rfl rfl rfl (hne W)) ?_
        simp only [Act.put, sA, sZ, sS]
        refine done (by kernel_rfl) ?_ _
        have HS := Lib.hid (And.intro (hstep he) hS)
        clear q0 q1 hstep hdiff hnes hS0 hix hiy hf4 hg8 hg9 hne hS he HX
        go_wp2
        go_roundw
        case rel => exact ⟨j + 1, hlt1, by go_num, HS⟩
        case measure => simp [intOf]; omega
      · have hne : ∀ W, (binOp .neq 9 (.string (strB a1)) (.string (strB a2))).run Tryz.prog W = .ok (.bool true) W := fun W => by rw [hnes, decide_eq_false he]; rfl
        refine tk 0 58 (v := .pointer (some ⟨w.heap.size, 4, none⟩)) rfl rfl (fun W hW => exec_fieldAddr rfl rfl (hf4 _ W)) ?_
        simp only [Act.put, sA, sZ, sS]
        refine tk 1 59 (v := .slice (some ⟨bk, ok, none⟩) ks.length ck) rfl rfl (fun W hW => exec_load rfl rfl (ld_cell Tryz.underlying26 rfl hW hg8 rfl)) ?_
        simp only [Act.put, sA, sZ, sS]
        refine tk 2 60 (v := .int .i64 (j : Int)) rfl rfl (fun W hW => exec_move rfl rfl) ?_
        simp only [Act.put, sA, sZ, sS]
        refine tk 3 61 (v := .pointer (some ⟨bk, ok + j, none⟩)) rfl rfl (fun W hW => exec_indexAddr rfl rfl rfl (hix W)) ?_
        simp only [Act.put, sA, sZ, sS]
        refine tk 4 62 (v := .string (strB a1)) rfl rfl (fun W hW => exec_load rfl rfl (run_load1 Tryz.underlying9 rfl (belowCell hW (ltOf q0) q0))) ?_
        simp only [Act.put, sA, sZ, sS]
        refine tk 5 63 (v := .pointer (some ⟨w.heap.size + 1, 4, none⟩)) rfl rfl (fun W hW => exec_fieldAddr rfl rfl (hf4 _ W)) ?_
        simp only [Act.put, sA, sZ, sS]
        refine tk 6 64 (v := .slice (some ⟨bk', ok', none⟩) ks'.length dk) rfl rfl (fun W hW => exec_load rfl rfl (ld_cell Tryz.underlying26 rfl hW hg9 rfl)) ?_
        simp only [Act.put, sA, sZ, sS]
        refine tk 7 65 (v := .int .i64 (j : Int)) rfl rfl (fun W hW => exec_move rfl rfl) ?_
        simp only [Act.put, sA, sZ, sS]
        refine tk 8 66 (v := .pointer (some ⟨bk', ok' + j, none⟩)) rfl rfl (fun W hW => exec_indexAddr rfl rfl rfl (hiy W)) ?_
        simp only [Act.put, sA, sZ, sS]
        refine tk 9 67 (v := .string (strB a2)) rfl rfl (fun W hW => exec_load rfl rfl (run_load1 Tryz.underlying9 rfl (belowCell hW (ltOf q1) q1))) ?_
        simp only [Act.put, sA, sZ, sS]
        refine tk 10 68 (v := .bool true) rfl rfl (fun W hW => exec_bins rfl rfl rfl (hne W)) ?_
        simp only [Act.put, sA, sZ, sS]
        refine done (by kernel_rfl) ?_ _
        have HS := Lib.hid (And.intro (hdiff he) hS)
        clear q0 q1 hstep hdiff hnes hS0 hix hiy hf4 hg8 hg9 hne hS he HX
        go_wp2
        go_ret
        exact ⟨by rw [decide_eq_false HS.out.1, Bool.false_and]; rfl, below_trans HB.out HS.out.2⟩
    · obtain rfl : j = ks.length := by omega
      have HKE := Lib.hid (show ks = ks' from by have h := HI.out.1; rw [List.take_length, HLK.out, List.take_length] at h; exact h)
      have HW1 := Lib.hid HI.out.2
      clear HI
      go_wp2
      go_loopw [6] (fun i W => ∃ j : Nat, j ≤ l.length ∧ i = .int .i64 (j : Int) ∧ Hid ((∀ i (h1 : i < l.length) (h2 : i < l'.length), i < j → alikeV l[i] l'[i] = true) ∧ Below W0.heap.size W0 W)) (fun i _ => l.length - (intOf i).toNat)
      case atStart => exact ⟨0, Nat.zero_le _, rfl, Lib.hid ⟨fun i _ _ h => by omega, HW1.out⟩⟩
      case round =>
        clear HW1 p4
        obtain ⟨j, hj, rfl, HI⟩ := hrel
        obtain ⟨hg8, hg9⟩ := HG.out
        have p5 := cellOf (o := 5) (belowBlk HI.out.2 (Array.getElem?_eq_some_iff.1 hg8).1 hg8) rfl
        clear hg8 hg9
        by_cases hlt : j < l.length
        · have hlt1 : j + 1 ≤ l.length := hlt
          have hlt2 : j < l'.length := by rw [← HLL.out]; exact hlt
          obtain ⟨bl, ol, cs, rfl, hs, hc, hv⟩ := HL1.out.grd.get hlt
          obtain ⟨bl', ol', ds, rfl, hs2, hc2, hv2⟩ := HL2.out.grd.get hlt2
          have hcall := fun W (g : Below W0.heap.size W0 W) => HIH.out l[j] (List.getElem_mem hlt) l'[j] W cs ds (hv.below g) (hv2.below g)
          have hno := all2_no (f := alikeV) hlt hlt2
          have hye : alikeV l[j] l'[j] = true → ∀ i (h1 : i < l.length) (h2 : i < l'.length), i < j + 1 → alikeV l[i] l'[i] = true := fun he i h1 h2 h3 => by
            rcases Nat.lt_or_ge i j with h4 | h4
            · exact HI.out.1 i h1 h2 h4
            · have : i = j := by omega
              subst this; exact he
          generalize alikeV l[j] l'[j] = r at *
          have hS0 : Below W0.heap.size W0 wr.drew := HI.out.2.drew
          have hix : ∀ W' : World, (Instr.indexAt 29 (.slice (some ⟨bl, ol, none⟩) l.length cl) (.int .i64 (j : Int))).run Tryz.prog W' = .ok (.pointer (some ⟨bl, ol + j * 6, none⟩)) W' := by intro W'; simp [go_sem, hlt]
          have hiy : ∀ W' : World, (Instr.indexAt 29 (.slice (some ⟨bl', ol', none⟩) l'.length dl) (.int .i64 (j : Int))).run Tryz.prog W' = .ok (.pointer (some ⟨bl', ol' + j * 6, none⟩)) W' := by intro W'; simp [go_sem, hlt2]
          have hf5 : ∀ (g : Nat) (W' : World), (Instr.fieldAt 31 (.pointer (some ⟨g, 0, none⟩)) 5).run Tryz.prog W' = .ok (.pointer (some ⟨g, 5, none⟩)) W' := by intro g W'; simp [go_sem]
          have hlx := fun W (g : Below W0.heap.size W0 W) => StT.load (P := Tryz.prog) (W := W) (g := bl) (o := ol + j * 6) st_val hs fun i u hu => belowCell g (ltOf (hc i u hu)) (hc i u hu)
          have hly := fun W (g : Below W0.heap.size W0 W) => StT.load (P := Tryz.prog) (W := W) (g := bl') (o := ol' + j * 6) st_val hs2 fun i u hu => belowCell g (ltOf (hc2 i u hu)) (hc2 i u hu)
          have HX := Lib.hid (And.intro hcall (And.intro hno (And.intro hye (And.intro hS0 (And.intro hix (And.intro hiy (And.intro hf5 (And.intro hlx hly))))))))
          clear hcall hno hye hS0 hix hiy hf5 hlx hly HI hs hc hv hs2 hc2 hv2
          go_wp2
          obtain ⟨hcall, hno, hye, hS0, hix, hiy, hf5, hlx, hly⟩ := HX.out
          obtain ⟨hg8, hg9⟩ := HG.out
          refine plain_region_draws (fun W => Below W0.heap.size W0 W) (by kernel_rfl) hS0 (fun hS => ?_)
          refine tk 0 76 (v := .pointer (some ⟨w.heap.size, 5, none⟩)) rfl rfl (fun W hW => exec_fieldAddr rfl rfl (hf5 _ W)) ?_
          simp only [Act.put, sA, sZ, sS]
          refine tk 1 77 (v := .slice (some ⟨bl, ol, none⟩) l.length cl) rfl rfl (fun W hW => exec_load rfl rfl (ld_cell Tryz.underlying29 rfl hW hg8 rfl)) ?_
          simp only [Act.put, sA, sZ, sS]
          refine tk 2 78 (v := .int .i64 (j : Int)) rfl rfl (fun W hW => exec_move rfl rfl) ?_
          simp only [Act.put, sA, sZ, sS]
          refine tk 3 79 (v := .pointer (some ⟨bl, ol + j * 6, none⟩)) rfl rfl (fun W hW => exec_indexAddr rfl rfl rfl (hix W)) ?_
          simp only [Act.put, sA, sZ, sS]
          refine tk 4 80 (v := .agg cs) rfl rfl (fun W hW => exec_load rfl rfl (hlx W hW)) ?_
          simp only [Act.put, sA, sZ, sS]
          refine tk 5 81 (v := .pointer (some ⟨w.heap.size + 1, 5, none⟩)) rfl rfl (fun W hW => exec_fieldAddr rfl rfl (hf5 _ W)) ?_
          simp only [Act.put, sA, sZ, sS]
          refine tk 6 82 (v := .slice (some ⟨bl', ol', none⟩) l'.length dl) rfl rfl (fun W hW => exec_load rfl rfl (ld_cell Tryz.underlying29 rfl hW hg9 rfl)) ?_
          simp only [Act.put, sA, sZ, sS]
          refine tk 7 83 (v := .int .i64 (j : Int)) rfl rfl (fun W hW => exec_move rfl rfl) ?_
          simp only [Act.put, sA, sZ, sS]
          refine tk 8 84 (v := .pointer (some ⟨bl', ol' + j * 6, none⟩)) rfl rfl (fun W hW => exec_indexAddr rfl rfl rfl (hiy W)) ?_
          simp only [Act.put, sA, sZ, sS]
          refine tk 9 85 (v := .agg ds) rfl rfl (fun W hW => exec_load rfl rfl (hly W hW)) ?_
          simp only [Act.put, sA, sZ, sS]
          refine onlyCall 10 86 rfl rfl (by kernel_rfl) rfl (exec_call [.agg cs, .agg ds] rfl rfl Tryz.func166 (by kernel_rfl) (by kernel_rfl)) ?_
          refine (hcall _ hS).mono ?_
          rintro e W8 ⟨rfl, hb8⟩
          have hS8 : Below W0.heap.size W0 W8 := below_trans hS hb8
          refine ⟨_, rfl, .inr hS8, ?_⟩
          simp only [Act.put, sA, sZ, sS]
          refine tk 11 87 (v := .bool (!r)) rfl rfl (fun W hW => exec_unot rfl rfl) ?_
          simp only [Act.put, sA, sZ, sS]
          refine done (by kernel_rfl) ?_ _
          have HS := Lib.hid hS8
          have HF := Lib.hid (And.intro hno hye)
          clear hcall hno hye hS0 hix hiy hf5 hlx hly hg8 hg9 hS hS8 hb8 HX
          cases r
          · go_wp2
            go_ret
            exact ⟨by rw [alikeVs_all2, HF.out.1 (by simp), Bool.and_false]; rfl, below_trans HB.out HS.out⟩
          · go_wp2
            go_roundw
            case rel => exact ⟨j + 1, hlt1, by go_num, Lib.hid ⟨HF.out.2 (by simp), HS.out⟩⟩
            case measure => simp [intOf]; omega
        · obtain rfl : j = l.length := by omega
          have HFF := Lib.hid (And.intro (all2_of (f := alikeV) HLL.out fun i h1 h2 => HI.out.1 i h1 h2 h1) HI.out.2)
          clear HI
          go_wp2
          go_ret
          exact ⟨by rw [decide_eq_true HKE.out, alikeVs_all2, HFF.out.1]; rfl, below_trans HB.out HFF.out.2⟩
end Go.Proofs.YtihfnegakcghiaaGreatDoor
namespace Go.Proofs.YtihfnegakcghiaaGreatDoor
open Go.RowKit
def sameQ (p q : PropD) : Bool := decide (p.key = q.key) && alikeV p.val q.val
def sameNQ (a b : NodeD) : Bool := decide (a.id = b.id) && decide (a.labels = b.labels) && all2 sameQ a.props b.props
def sameRQ (a b : RelD) : Bool := decide (a.id = b.id) && decide (a.src = b.src) && decide (a.dst = b.dst) && decide (a.type = b.type) && all2 sameQ a.props b.props
def sameGQ (a b : GraphD) : Bool := decide (a.nextNode = b.nextNode) && decide (a.nextRel = b.nextRel) && all2 sameNQ a.nodes b.nodes && all2 sameRQ a.rels b.rels
theorem sameQ_iff (p q : PropD) : sameQ p q = true ↔ p = q := by
  obtain ⟨a, b⟩ := p
  obtain ⟨c, d⟩ := q
  unfold sameQ
  simp only [Bool.and_eq_true, decide_eq_true_eq, alikeV_iff, PropD.mk.injEq]
theorem samePsQ_iff (l m : List PropD) : all2 sameQ l m = true ↔ l = m := all2_eq fun x _ y _ => sameQ_iff x y
theorem sameNQ_iff (a b : NodeD) : sameNQ a b = true ↔ a = b := by
  have := samePsQ_iff a.props b.props
  unfold sameNQ
  obtain ⟨x1, x2, x3⟩ := a
  obtain ⟨y1, y2, y3⟩ := b
  simp only [Bool.and_eq_true, decide_eq_true_eq, NodeD.mk.injEq] at this ⊢
  rw [this, and_assoc]
theorem sameRQ_iff (a b : RelD) : sameRQ a b = true ↔ a = b := by
  have := samePsQ_iff a.props b.props
  unfold sameRQ
  obtain ⟨x1, x2, x3, x4, x5⟩ := a
  obtain ⟨y1, y2, y3, y4, y5⟩ := b
  simp only [Bool.and_eq_true, decide_eq_true_eq, RelD.mk.injEq] at this ⊢
  rw [this, and_assoc, and_assoc, and_assoc]
theorem sameGQ_iff (a b : GraphD) : sameGQ a b = true ↔ a = b := by
  have h1 : all2 sameNQ a.nodes b.nodes = true ↔ a.nodes = b.nodes := all2_eq fun x _ y _ => sameNQ_iff x y
  have h2 : all2 sameRQ a.rels b.rels = true ↔ a.rels = b.rels := all2_eq fun x _ y _ => sameRQ_iff x y
  unfold sameGQ
  obtain ⟨x1, x2, x3, x4⟩ := a
  obtain ⟨y1, y2, y3, y4⟩ := b
  simp only [Bool.and_eq_true, decide_eq_true_eq, GraphD.mk.injEq] at h1 h2 ⊢
  rw [h1, h2]
  constructor
  · rintro ⟨⟨⟨e1, e2⟩, e3⟩, e4⟩; exact ⟨e3, e4, e1, e2⟩
  · rintro ⟨e1, e2, e3, e4⟩; exact ⟨⟨⟨e3, e4⟩, e1⟩, e2⟩
def AllJ {α : Type} (f : α → α → Bool) (l m : List α) (j : Nat) : Prop := ∀ i (h1 : i < l.length) (h2 : i < m.length), i < j → f l[i] m[i] = true
theorem AllJ.zero {α : Type} (f : α → α → Bool) (l m : List α) : AllJ f l m 0 := fun i _ _ h => by omega
theorem AllJ.succ {α : Type} {f : α → α → Bool} {l m : List α} {j : Nat} (h : AllJ f l m j) (h1 : j < l.length) (h2 : j < m.length) (he : f l[j] m[j] = true) : AllJ f l m (j + 1) := fun i a b hi => by
  by_cases e : i = j
  · subst e; exact he
  · exact h i a b (by omega)
theorem AllJ.all {α : Type} {f : α → α → Bool} {l m : List α} (h : AllJ f l m l.length) (hl : l.length = m.length) : all2 f l m = true := all2_of hl fun i h1 h2 => h i h1 h2 h1
def eqT (a b : List UInt8) : Bool := decide (a = b)
theorem eqTs_iff (l m : List (List UInt8)) : all2 eqT l m = decide (l = m) := by
  have h : all2 eqT l m = true ↔ l = m := all2_eq fun x _ y _ => by simp [eqT]
  rw [Bool.eq_iff_iff, h, decide_eq_true_iff]
theorem sameTextsD_any {w : World} {p1 p2 : Option Addr} {c1 c2 : Nat} {a b : List (List UInt8)} (ha : RdS w p1 c1 a) (hb : RdS w p2 c2 b) : Calls Tryz.prog 115 #[.slice p1 a.length c1, .slice p2 b.length c2] w fun e w' => e = .returned (.bool (decide (a = b))) ∧ Below w.heap.size w w' := by
  have z1 : (a.length : Int) ≤ 140737488355328 := by have := ha.2.1.1; omega
  have z2 : (b.length : Int) ≤ 140737488355328 := by have := hb.2.1.1; omega
  have H := Lib.hid (And.intro ha hb)
  clear ha hb
  rw [← eqTs_iff]
  by_cases hl : a.length = b.length
  rotate_left
  · have HF := Lib.hid (all2_ne (f := eqT) hl)
    have hl2 : ¬ (a.length : Int) = (b.length : Int) := by omega
    have hl3 : ((a.length : Int) == (b.length : Int)) = false := by rw [beq_eq_false_iff_ne]; exact hl2
    generalize a.length = n1 at *
    generalize b.length = n2 at *
    clear hl
    go_enter Tryz.func115, Tryz.ntmps115
    go_wp2
    go_ret
    exact ⟨ret_bool HF.out.symm, Below.refl _ _⟩
  · have HL := Lib.hid hl
    have hl2 : (a.length : Int) = (b.length : Int) := by omega
    have hle : (b.length : Int) = (a.length : Int) := hl2.symm
    clear hl hl2
    go_enter Tryz.func115, Tryz.ntmps115
    go_wp2
    clear hle
    go_loopw [5] (fun i W => ∃ j : Nat, j ≤ a.length ∧ i = .int .i64 (j : Int) ∧ Hid (AllJ eqT a b j ∧ Below w.heap.size w W)) (fun i _ => a.length - (intOf i).toNat)
    case atStart => exact ⟨0, Nat.zero_le _, rfl, Lib.hid ⟨AllJ.zero _ _ _, Below.refl _ _⟩⟩
    case round =>
      obtain ⟨j, hj, rfl, HI⟩ := hrel
      by_cases hlt : j < a.length
      · have hlt1 : j + 1 ≤ a.length := hlt
        have hltb : j < b.length := by have := HL.out; omega
        obtain ⟨b1, o1, rfl, q1, _⟩ := (H.out.1.below HI.out.2).get hlt
        obtain ⟨b2, o2, rfl, q2, _⟩ := (H.out.2.below HI.out.2).get hltb
        have hi1 : ∀ W' : World, (Instr.indexAt 26 (.slice (some ⟨b1, o1, none⟩) a.length c1) (.int .i64 (j : Int))).run Tryz.prog W' = .ok (.pointer (some ⟨b1, o1 + j, none⟩)) W' := fun W' => ia_text hlt W'
        have hi2 : ∀ W' : World, (Instr.indexAt 26 (.slice (some ⟨b2, o2, none⟩) b.length c2) (.int .i64 (j : Int))).run Tryz.prog W' = .ok (.pointer (some ⟨b2, o2 + j, none⟩)) W' := fun W' => ia_text hltb W'
        have hne := nes_bytesD a[j] b[j]
        have hno := all2_no (f := eqT) (j := j) hlt hltb
        have hye := HI.out.1.succ hlt hltb
        have heq : eqT a[j] b[j] = decide (a[j] = b[j]) := rfl
        rw [heq] at hno hye
        obtain ⟨bb, hbb⟩ : ∃ bb, bb = !decide (a[j] = b[j]) := ⟨_, rfl⟩
        have hde : decide (a[j] = b[j]) = !bb := by rw [hbb]; simp
        rw [hde] at hno hye
        simp only [← hbb] at hne
        have HM := Lib.hid (And.intro hno hye)
        have HB1 := Lib.hid HI.out.2
        have hB0 : Below wr.heap.size wr wr.drew := (Below.refl _ wr).drew
        clear heq hde hbb hno hye
        generalize a[j] = s1 at *
        generalize b[j] = s2 at *
        have HX := Lib.hid (And.intro hi1 (And.intro hi2 (And.intro hne (And.intro q1 (And.intro q2 hB0)))))
        clear hi1 hi2 hne q1 q2 hB0 HI
        go_wp2
        obtain ⟨hi1, hi2, hne, q1, q2, hB0⟩ := HX.out
        refine plain_region_draws (fun W => Below wr.heap.size wr W) (by kernel_rfl) hB0 (fun hS => ?_)
        refine tk 0 17 (v := .slice (some ⟨b1, o1, none⟩) a.length c1) rfl rfl (fun W hW => exec_move rfl rfl) ?_
        simp only [Act.put, sA, sZ, sS]
        refine tk 1 18 (v := .int .i64 (j : Int)) rfl rfl (fun W hW => exec_move rfl rfl) ?_
        simp only [Act.put, sA, sZ, sS]
        refine tk 2 19 (v := .pointer (some ⟨b1, o1 + j, none⟩)) rfl rfl (fun W hW => exec_indexAddr rfl rfl rfl (hi1 W)) ?_
        simp only [Act.put, sA, sZ, sS]
        refine tk 3 20 (v := .string (strB s1)) rfl rfl (fun W hW => exec_load rfl rfl (run_load1 (w := W) Tryz.underlying9 rfl (belowCell hW (ltOf q1) q1))) ?_
        simp only [Act.put, sA, sZ, sS]
        refine tk 4 21 (v := .slice (some ⟨b2, o2, none⟩) b.length c2) rfl rfl (fun W hW => exec_move rfl rfl) ?_
        simp only [Act.put, sA, sZ, sS]
        refine tk 5 22 (v := .int .i64 (j : Int)) rfl rfl (fun W hW => exec_move rfl rfl) ?_
        simp only [Act.put, sA, sZ, sS]
        refine tk 6 23 (v := .pointer (some ⟨b2, o2 + j, none⟩)) rfl rfl (fun W hW => exec_indexAddr rfl rfl rfl (hi2 W)) ?_
        simp only [Act.put, sA, sZ, sS]
        refine tk 7 24 (v := .string (strB s2)) rfl rfl (fun W hW => exec_load rfl rfl (run_load1 (w := W) Tryz.underlying9 rfl (belowCell hW (ltOf q2) q2))) ?_
        simp only [Act.put, sA, sZ, sS]
        refine tk 8 25 (v := .bool bb) rfl rfl (fun W hW => exec_bins rfl rfl rfl (hne W)) ?_
        simp only [Act.put, sA, sZ, sS]
        refine done (by kernel_rfl) ?_ _
        have HB := Lib.hid (below_trans HB1.out hS)
        clear hi1 hi2 hne q1 q2 hB0 hS HX
        cases bb with
        | true =>
          go_wp2
          go_ret
          exact ⟨ret_bool (HM.out.1 rfl).symm, HB.out⟩
        | false =>
          go_wp2
          go_roundw
          case rel => exact ⟨j + 1, hlt1, by go_num, Lib.hid ⟨HM.out.2 rfl, HB.out⟩⟩
          case measure => simp [intOf]; omega
      · obtain rfl : j = a.length := by omega
        have HF := Lib.hid (HI.out.1.all HL.out)
        have HB := Lib.hid HI.out.2
        clear HI
        go_wp2
        go_ret
        exact ⟨ret_bool HF.out.symm, HB.out⟩
theorem samePropsD_any {w : World} {p1 p2 : Option Addr} {c1 c2 : Nat} {a b : List PropD} (ha : GRd PRd 7 w p1 c1 a) (hb : GRd PRd 7 w p2 c2 b) : Calls Tryz.prog 116 #[.slice p1 a.length c1, .slice p2 b.length c2] w fun e w' => e = .returned (.bool (all2 sameQ a b)) ∧ Below w.heap.size w w' := by
  have z1 : (a.length : Int) ≤ 140737488355328 := by have := ha.1.2.1; omega
  have z2 : (b.length : Int) ≤ 140737488355328 := by have := hb.1.2.1; omega
  have H := Lib.hid (And.intro ha hb)
  clear ha hb
  by_cases hl : a.length = b.length
  rotate_left
  · have HF := Lib.hid (all2_ne (f := sameQ) hl)
    have hl2 : ¬ (a.length : Int) = (b.length : Int) := by omega
    have hl3 : ((a.length : Int) == (b.length : Int)) = false := by rw [beq_eq_false_iff_ne]; exact hl2
    generalize a.length = n1 at *
    generalize b.length = n2 at *
    clear hl
    go_enter Tryz.func116, Tryz.ntmps116
    go_wp2
    go_ret
    exact ⟨ret_bool HF.out.symm, Below.refl _ _⟩
  · have HL := Lib.hid hl
    have hl2 : (a.length : Int) = (b.length : Int) := by omega
    have hle : (b.length : Int) = (a.length : Int) := hl2.symm
    clear hl hl2
    go_enter Tryz.func116, Tryz.ntmps116
    go_wp2
    clear hle
    go_loopw [5] (fun i W => ∃ j : Nat, j ≤ a.length ∧ i = .int .i64 (j : Int) ∧ Hid (AllJ sameQ a b j ∧ Below w.heap.size w W)) (fun i _ => a.length - (intOf i).toNat)
    case atStart => exact ⟨0, Nat.zero_le _, rfl, Lib.hid ⟨AllJ.zero _ _ _, Below.refl _ _⟩⟩
    case round =>
      obtain ⟨j, hj, rfl, HI⟩ := hrel
      by_cases hlt : j < a.length
      · have hlt1 : j + 1 ≤ a.length := hlt
        have hltb : j < b.length := by have := HL.out; omega
        obtain ⟨b1, o1, cs1, rfl, _, hcc1, hv1⟩ := (H.out.1.below (fun h => h.below HI.out.2) HI.out.2).get hlt
        obtain ⟨b2, o2, cs2, rfl, _, hcc2, hv2⟩ := (H.out.2.below (fun h => h.below HI.out.2) HI.out.2).get hltb
        obtain ⟨q1, _, y1, hu1, r1⟩ := prop_cells hv1 hcc1
        obtain ⟨q2, _, y2, hu2, r2⟩ := prop_cells hv2 hcc2
        have hy1 := ef_val.size hu1
        have hy2 := ef_val.size hu2
        have hi1 : ∀ W' : World, (Instr.indexAt 27 (.slice (some ⟨b1, o1, none⟩) a.length c1) (.int .i64 (j : Int))).run Tryz.prog W' = .ok (.pointer (some ⟨b1, o1 + j * 7, none⟩)) W' := fun W' => ia_prop hlt W'
        have hi2 : ∀ W' : World, (Instr.indexAt 27 (.slice (some ⟨b2, o2, none⟩) b.length c2) (.int .i64 (j : Int))).run Tryz.prog W' = .ok (.pointer (some ⟨b2, o2 + j * 7, none⟩)) W' := fun W' => ia_prop hltb W'
        have hne := nes_bytesD a[j].key b[j].key
        have hal := fun W (g : Below wr.heap.size wr W) => alikeD_any a[j].val b[j].val W y1 y2 (hu1.below g) (hu2.below g)
        have hno := all2_no (f := sameQ) (j := j) hlt hltb
        have hye := HI.out.1.succ hlt hltb
        have heq : sameQ a[j] b[j] = (decide (a[j].key = b[j].key) && alikeV a[j].val b[j].val) := rfl
        rw [heq] at hno hye
        generalize alikeV a[j].val b[j].val = av at *
        obtain ⟨kb, hkb⟩ : ∃ kb, kb = decide (a[j].key = b[j].key) := ⟨_, rfl⟩
        rw [← hkb] at hno hye
        simp only [← hkb] at hne
        have HM := Lib.hid (And.intro hno hye)
        have HB1 := Lib.hid HI.out.2
        have hB0 : Below wr.heap.size wr wr.drew := (Below.refl _ wr).drew
        clear heq hkb hno hye hv1 hv2 hu1 hu2 hcc1 hcc2
        generalize a[j].key = s1 at *
        generalize b[j].key = s2 at *
        have HX := Lib.hid (And.intro hi1 (And.intro hi2 (And.intro hne (And.intro q1 (And.intro q2 (And.intro hal (And.intro r1 (And.intro r2 (And.intro hy1 (And.intro hy2 hB0))))))))))
        clear hi1 hi2 hne q1 q2 hB0 HI hal r1 r2 hy1 hy2
        go_wp2
        obtain ⟨hi1, hi2, hne, q1, q2, hal, r1, r2, hy1, hy2, hB0⟩ := HX.out
        refine plain_region_draws (fun W => Below wr.heap.size wr W) (by kernel_rfl) hB0 (fun hS => ?_)
        cases kb with
        | false =>
          refine tk 0 17 (v := .slice (some ⟨b1, o1, none⟩) a.length c1) rfl rfl (fun W hW => exec_move rfl rfl) ?_
          simp only [Act.put, sA, sZ, sS]
          refine tk 1 18 (v := .int .i64 (j : Int)) rfl rfl (fun W hW => exec_move rfl rfl) ?_
          simp only [Act.put, sA, sZ, sS]
          refine tk 2 19 (v := .pointer (some ⟨b1, o1 + j * 7, none⟩)) rfl rfl (fun W hW => exec_indexAddr rfl rfl rfl (hi1 W)) ?_
          simp only [Act.put, sA, sZ, sS]
          refine tk 3 20 (v := .pointer (some ⟨b1, o1 + j * 7, none⟩)) rfl rfl (fun W hW => exec_fieldAddr rfl rfl (fa_pr0 _ _ W)) ?_
          simp only [Act.put, sA, sZ, sS]
          refine tk 4 21 (v := .string (strB s1)) rfl rfl (fun W hW => exec_load rfl rfl (run_load1 (w := W) Tryz.underlying9 rfl (belowCell hW (ltOf q1) q1))) ?_
          simp only [Act.put, sA, sZ, sS]
          refine tk 5 22 (v := .slice (some ⟨b2, o2, none⟩) b.length c2) rfl rfl (fun W hW => exec_move rfl rfl) ?_
          simp only [Act.put, sA, sZ, sS]
          refine tk 6 23 (v := .int .i64 (j : Int)) rfl rfl (fun W hW => exec_move rfl rfl) ?_
          simp only [Act.put, sA, sZ, sS]
          refine tk 7 24 (v := .pointer (some ⟨b2, o2 + j * 7, none⟩)) rfl rfl (fun W hW => exec_indexAddr rfl rfl rfl (hi2 W)) ?_
          simp only [Act.put, sA, sZ, sS]
          refine tk 8 25 (v := .pointer (some ⟨b2, o2 + j * 7, none⟩)) rfl rfl (fun W hW => exec_fieldAddr rfl rfl (fa_pr0 _ _ W)) ?_
          simp only [Act.put, sA, sZ, sS]
          refine tk 9 26 (v := .string (strB s2)) rfl rfl (fun W hW => exec_load rfl rfl (run_load1 (w := W) Tryz.underlying9 rfl (belowCell hW (ltOf q2) q2))) ?_
          simp only [Act.put, sA, sZ, sS]
          refine tk 10 27 (v := .bool true) rfl rfl (fun W hW => exec_bins rfl rfl rfl (hne W)) ?_
          simp only [Act.put, sA, sZ, sS]
          refine tk 11 28 (v := .bool true) rfl rfl (fun W hW => exec_move rfl rfl) ?_
          simp only [Act.put, sA, sZ, sS]
          refine tn 12 29 rfl rfl ?_
          simp only [Act.put, sA, sZ, sS]
          refine tn 13 30 rfl rfl ?_
          simp only [Act.put, sA, sZ, sS]
          refine tn 14 31 rfl rfl ?_
          simp only [Act.put, sA, sZ, sS]
          refine tn 15 32 rfl rfl ?_
          simp only [Act.put, sA, sZ, sS]
          refine tn 16 33 rfl rfl ?_
          simp only [Act.put, sA, sZ, sS]
          refine tn 17 34 rfl rfl ?_
          simp only [Act.put, sA, sZ, sS]
          refine tn 18 35 rfl rfl ?_
          simp only [Act.put, sA, sZ, sS]
          refine tn 19 36 rfl rfl ?_
          simp only [Act.put, sA, sZ, sS]
          refine tn 20 37 rfl rfl ?_
          simp only [Act.put, sA, sZ, sS]
          refine tn 21 38 rfl rfl ?_
          simp only [Act.put, sA, sZ, sS]
          refine onlyNot 22 39 rfl rfl (by kernel_rfl) rfl ?_ (.inr (by assumption))
          simp only [Act.put, sA, sZ, sS]
          refine tn 23 40 rfl rfl ?_
          simp only [Act.put, sA, sZ, sS]
          refine tk 24 41 (v := .bool true) rfl rfl (fun W hW => rfl) ?_
          simp only [Act.put, sA, sZ, sS]
          refine done (by kernel_rfl) ?_ _
          have HB := Lib.hid (below_trans HB1.out hS)
          clear hi1 hi2 hne q1 q2 hB0 hS HX hal r1 r2 hy1 hy2
          go_wp2
          go_ret
          exact ⟨ret_bool (HM.out.1 rfl).symm, HB.out⟩
        | true =>
          refine tk 0 17 (v := .slice (some ⟨b1, o1, none⟩) a.length c1) rfl rfl (fun W hW => exec_move rfl rfl) ?_
          simp only [Act.put, sA, sZ, sS]
          refine tk 1 18 (v := .int .i64 (j : Int)) rfl rfl (fun W hW => exec_move rfl rfl) ?_
          simp only [Act.put, sA, sZ, sS]
          refine tk 2 19 (v := .pointer (some ⟨b1, o1 + j * 7, none⟩)) rfl rfl (fun W hW => exec_indexAddr rfl rfl rfl (hi1 W)) ?_
          simp only [Act.put, sA, sZ, sS]
          refine tk 3 20 (v := .pointer (some ⟨b1, o1 + j * 7, none⟩)) rfl rfl (fun W hW => exec_fieldAddr rfl rfl (fa_pr0 _ _ W)) ?_
          simp only [Act.put, sA, sZ, sS]
          refine tk 4 21 (v := .string (strB s1)) rfl rfl (fun W hW => exec_load rfl rfl (run_load1 (w := W) Tryz.underlying9 rfl (belowCell hW (ltOf q1) q1))) ?_
          simp only [Act.put, sA, sZ, sS]
          refine tk 5 22 (v := .slice (some ⟨b2, o2, none⟩) b.length c2) rfl rfl (fun W hW => exec_move rfl rfl) ?_
          simp only [Act.put, sA, sZ, sS]
          refine tk 6 23 (v := .int .i64 (j : Int)) rfl rfl (fun W hW => exec_move rfl rfl) ?_
          simp only [Act.put, sA, sZ, sS]
          refine tk 7 24 (v := .pointer (some ⟨b2, o2 + j * 7, none⟩)) rfl rfl (fun W hW => exec_indexAddr rfl rfl rfl (hi2 W)) ?_
          simp only [Act.put, sA, sZ, sS]
          refine tk 8 25 (v := .pointer (some ⟨b2, o2 + j * 7, none⟩)) rfl rfl (fun W hW => exec_fieldAddr rfl rfl (fa_pr0 _ _ W)) ?_
          simp only [Act.put, sA, sZ, sS]
          refine tk 9 26 (v := .string (strB s2)) rfl rfl (fun W hW => exec_load rfl rfl (run_load1 (w := W) Tryz.underlying9 rfl (belowCell hW (ltOf q2) q2))) ?_
          simp only [Act.put, sA, sZ, sS]
          refine tk 10 27 (v := .bool false) rfl rfl (fun W hW => exec_bins rfl rfl rfl (hne W)) ?_
          simp only [Act.put, sA, sZ, sS]
          refine tk 11 28 (v := .bool false) rfl rfl (fun W hW => exec_move rfl rfl) ?_
          simp only [Act.put, sA, sZ, sS]
          refine tk 12 29 (v := .slice (some ⟨b1, o1, none⟩) a.length c1) rfl rfl (fun W hW => exec_move rfl rfl) ?_
          simp only [Act.put, sA, sZ, sS]
          refine tk 13 30 (v := .int .i64 (j : Int)) rfl rfl (fun W hW => exec_move rfl rfl) ?_
          simp only [Act.put, sA, sZ, sS]
          refine tk 14 31 (v := .pointer (some ⟨b1, o1 + j * 7, none⟩)) rfl rfl (fun W hW => exec_indexAddr rfl rfl rfl (hi1 W)) ?_
          simp only [Act.put, sA, sZ, sS]
          refine tk 15 32 (v := .pointer (some ⟨b1, o1 + j * 7 + 1, none⟩)) rfl rfl (fun W hW => exec_fieldAddr rfl rfl (fa_pr1 _ _ W)) ?_
          simp only [Act.put, sA, sZ, sS]
          refine tk 16 33 (v := .agg y1) rfl rfl (fun W hW => exec_load rfl rfl (StT.load (P := Tryz.prog) (W := W) st_val hy1 fun i u hu => belowCell hW (ltOf (r1 i u hu)) (r1 i u hu))) ?_
          simp only [Act.put, sA, sZ, sS]
          refine tk 17 34 (v := .slice (some ⟨b2, o2, none⟩) b.length c2) rfl rfl (fun W hW => exec_move rfl rfl) ?_
          simp only [Act.put, sA, sZ, sS]
          refine tk 18 35 (v := .int .i64 (j : Int)) rfl rfl (fun W hW => exec_move rfl rfl) ?_
          simp only [Act.put, sA, sZ, sS]
          refine tk 19 36 (v := .pointer (some ⟨b2, o2 + j * 7, none⟩)) rfl rfl (fun W hW => exec_indexAddr rfl rfl rfl (hi2 W)) ?_
          simp only [Act.put, sA, sZ, sS]
          refine tk 20 37 (v := .pointer (some ⟨b2, o2 + j * 7 + 1, none⟩)) rfl rfl (fun W hW => exec_fieldAddr rfl rfl (fa_pr1 _ _ W)) ?_
          simp only [Act.put, sA, sZ, sS]
          refine tk 21 38 (v := .agg y2) rfl rfl (fun W hW => exec_load rfl rfl (StT.load (P := Tryz.prog) (W := W) st_val hy2 fun i u hu => belowCell hW (ltOf (r2 i u hu)) (r2 i u hu))) ?_
          simp only [Act.put, sA, sZ, sS]
          refine onlyCall 22 39 rfl rfl (by kernel_rfl) rfl (exec_call [.agg y1, .agg y2] rfl rfl Tryz.func166 (by kernel_rfl) (by kernel_rfl)) ?_
          refine (hal _ hS).mono ?_
          rintro e W22 ⟨rfl, hb22⟩
          have hS22 := below_trans hS hb22
          refine ⟨_, rfl, .inr hS22, ?_⟩
          simp only [Act.put, sA, sZ, sS]
          refine tk 23 40 (v := .bool (!av)) rfl rfl (fun W hW => exec_unot rfl rfl) ?_
          simp only [Act.put, sA, sZ, sS]
          refine tk 24 41 (v := .bool (!av)) rfl rfl (fun W hW => rfl) ?_
          simp only [Act.put, sA, sZ, sS]
          refine done (by kernel_rfl) ?_ _
          have HB := Lib.hid (below_trans HB1.out hS22)
          clear hi1 hi2 hne q1 q2 hB0 hS HX hal r1 r2 hy1 hy2 hS22 hb22
          cases av with
          | false =>
            go_wp2
            go_ret
            exact ⟨ret_bool (HM.out.1 rfl).symm, HB.out⟩
          | true =>
            go_wp2
            go_roundw
            case rel => exact ⟨j + 1, hlt1, by go_num, Lib.hid ⟨HM.out.2 rfl, HB.out⟩⟩
            case measure => simp [intOf]; omega
      · obtain rfl : j = a.length := by omega
        have HF := Lib.hid (HI.out.1.all HL.out)
        have HB := Lib.hid HI.out.2
        clear HI
        go_wp2
        go_ret
        exact ⟨ret_bool HF.out.symm, HB.out⟩
theorem sameNodeD_any {w : World} {a b : NodeD} {x y : Array Value} (ha : NRd w a x) (hb : NRd w b y) : Calls Tryz.prog 54 #[.agg x, .agg y] w fun e w' => e = .returned (.bool (sameNQ a b)) ∧ Below w.heap.size w w' := by
  obtain ⟨pl, cl, pp, cp, rfl, hla, hpa⟩ := ha
  obtain ⟨ql, dl, qp, dp, rfl, hlb, hpb⟩ := hb
  have hb1 := below_new (w := w) (.cells #[.int .i64 a.id, .slice pl a.labels.length cl, .slice pp a.props.length cp] 45)
  have hb2 := below_new (w := w.alloc (.cells #[.int .i64 a.id, .slice pl a.labels.length cl, .slice pp a.props.length cp] 45)) (.cells #[.int .i64 b.id, .slice ql b.labels.length dl, .slice qp b.props.length dp] 45)
  have hbc := below_trans hb1 hb2
  have hx8 := belowBlk hb2 (by simp) (heap_alloc_new w (.cells #[.int .i64 a.id, .slice pl a.labels.length cl, .slice pp a.props.length cp] 45))
  have hx9 := heap_alloc_new (w.alloc (.cells #[.int .i64 a.id, .slice pl a.labels.length cl, .slice pp a.props.length cp] 45)) (.cells #[.int .i64 b.id, .slice ql b.labels.length dl, .slice qp b.props.length dp] 45)
  simp only [World.size_alloc] at hx9
  have HT := Lib.hid (sameTextsD_any (hla.below hbc) (hlb.below hbc))
  have HP := Lib.hid (fun W (g : Below ((w.alloc (.cells #[.int .i64 a.id, .slice pl a.labels.length cl, .slice pp a.props.length cp] 45)).alloc (.cells #[.int .i64 b.id, .slice ql b.labels.length dl, .slice qp b.props.length dp] 45)).heap.size ((w.alloc (.cells #[.int .i64 a.id, .slice pl a.labels.length cl, .slice pp a.props.length cp] 45)).alloc (.cells #[.int .i64 b.id, .slice ql b.labels.length dl, .slice qp b.props.length dp] 45)) W) => samePropsD_any ((hpa.below (fun h => h.below hbc) hbc).below (fun h => h.below g) g) ((hpb.below (fun h => h.below hbc) hbc).below (fun h => h.below g) g))
  have HX := Lib.hid (And.intro hbc (And.intro hx8 hx9))
  have HF := Lib.hid (show sameNQ a b = (decide (a.id = b.id) && decide (a.labels = b.labels) && all2 sameQ a.props b.props) from rfl)
  generalize all2 sameQ a.props b.props = pb at *
  generalize hlb' : decide (a.labels = b.labels) = lb at *
  clear hb1 hb2 hbc hx8 hx9 hla hpa hlb hpb hlb'
  by_cases hi : a.id = b.id
  · have hie : (a.id == b.id) = true := by rw [beq_iff_eq]; exact hi
    have HI := Lib.hid hi
    clear hi
    cases lb with
    | false =>
      go_enter Tryz.func54, Tryz.ntmps54
      go_wp2_with (first
        | (go_at_call 115; refine HT.out.mono ?_; rintro e W2 ⟨rfl, hb⟩; have HB := Lib.hid (below_trans HX.out.1 hb); clear hb))
      go_ret
      exact ⟨ret_bool (by rw [HF.out]; simp), HB.out⟩
    | true =>
      go_enter Tryz.func54, Tryz.ntmps54
      go_wp2_with (first
        | (go_at_call 115
           (
            refine HT.out.mono ?_
            rintro e W2 ⟨rfl, hb⟩
            have HB := Lib.hid (below_trans HX.out.1 hb)
            have p2 : W2.cell? ⟨w.heap.size, 2, none⟩ = some (.slice pp a.props.length cp) := cellOf (o := 2) (belowBlk hb (by simp; omega) HX.out.2.1) rfl
            have p3 : W2.cell? ⟨w.heap.size + 1, 2, none⟩ = some (.slice qp b.props.length dp) := cellOf (o := 2) (belowBlk hb (by simp) HX.out.2.2) rfl
            have HP2 := Lib.hid (HP.out W2 hb)
            clear hb))
        | (go_at_call 116; refine HP2.out.mono ?_; rintro e W3 ⟨rfl, hb⟩; have HB3 := Lib.hid (below_trans HB.out hb); clear hb))
      go_ret
      exact ⟨ret_bool (by rw [HF.out, decide_eq_true HI.out]; simp), HB3.out⟩
  · have hie : (a.id == b.id) = false := by rw [beq_eq_false_iff_ne]; exact hi
    have HI := Lib.hid hi
    clear hi
    go_enter Tryz.func54, Tryz.ntmps54
    go_wp2
    go_ret
    exact ⟨ret_bool (by rw [HF.out, decide_eq_false HI.out]; rfl), HX.out.1⟩
theorem sameRelD_any {w : World} {a b : RelD} {x y : Array Value} (ha : RRd w a x) (hb : RRd w b y) : Calls Tryz.prog 55 #[.agg x, .agg y] w fun e w' => e = .returned (.bool (sameRQ a b)) ∧ Below w.heap.size w w' := by
  obtain ⟨pp, cp, rfl, hta, hpa⟩ := ha
  obtain ⟨qp, dp, rfl, htb, hpb⟩ := hb
  have hb1 := below_new (w := w) (.cells #[.int .i64 a.id, .int .i64 a.src, .int .i64 a.dst, .string (strB a.type), .slice pp a.props.length cp] 49)
  have hb2 := below_new (w := w.alloc (.cells #[.int .i64 a.id, .int .i64 a.src, .int .i64 a.dst, .string (strB a.type), .slice pp a.props.length cp] 49)) (.cells #[.int .i64 b.id, .int .i64 b.src, .int .i64 b.dst, .string (strB b.type), .slice qp b.props.length dp] 49)
  have hbc := below_trans hb1 hb2
  have HP := Lib.hid (samePropsD_any (hpa.below (fun h => h.below hbc) hbc) (hpb.below (fun h => h.below hbc) hbc))
  have HX := Lib.hid hbc
  have HF := Lib.hid (show sameRQ a b = (decide (a.id = b.id) && decide (a.src = b.src) && decide (a.dst = b.dst) && decide (a.type = b.type) && all2 sameQ a.props b.props) from rfl)
  have hes : ((strB a.type).toList == (strB b.type).toList) = decide (a.type = b.type) := by rw [strB_toList, strB_toList, Bool.eq_iff_iff, beq_iff_eq, decide_eq_true_iff]
  generalize all2 sameQ a.props b.props = pb at *
  clear hb1 hb2 hbc hta htb hpa hpb
  by_cases h1 : a.id = b.id
  rotate_left
  · have f1 : (a.id == b.id) = false := by rw [beq_eq_false_iff_ne]; exact h1
    have HN := Lib.hid h1
    clear h1 hes
    go_enter Tryz.func55, Tryz.ntmps55
    go_wp2
    go_ret
    exact ⟨ret_bool (by rw [HF.out, decide_eq_false HN.out]; rfl), HX.out⟩
  have f1 : (a.id == b.id) = true := by rw [beq_iff_eq]; exact h1
  have H1 := Lib.hid h1
  clear h1
  by_cases h2 : a.src = b.src
  rotate_left
  · have f2 : (a.src == b.src) = false := by rw [beq_eq_false_iff_ne]; exact h2
    have HN := Lib.hid h2
    clear h2 hes
    go_enter Tryz.func55, Tryz.ntmps55
    go_wp2
    go_ret
    exact ⟨ret_bool (by rw [HF.out, decide_eq_false HN.out]; simp), HX.out⟩
  have f2 : (a.src == b.src) = true := by rw [beq_iff_eq]; exact h2
  have H2 := Lib.hid h2
  clear h2
  by_cases h3 : a.dst = b.dst
  rotate_left
  · have f3 : (a.dst == b.dst) = false := by rw [beq_eq_false_iff_ne]; exact h3
    have HN := Lib.hid h3
    clear h3 hes
    go_enter Tryz.func55, Tryz.ntmps55
    go_wp2
    go_ret
    exact ⟨ret_bool (by rw [HF.out, decide_eq_false HN.out]; simp), HX.out⟩
  have f3 : (a.dst == b.dst) = true := by rw [beq_iff_eq]; exact h3
  have H3 := Lib.hid h3
  clear h3
  by_cases h4 : a.type = b.type
  rotate_left
  · rw [decide_eq_false h4] at hes
    have HN := Lib.hid h4
    clear h4
    go_enter Tryz.func55, Tryz.ntmps55
    go_wp2
    go_ret
    exact ⟨ret_bool (by rw [HF.out, decide_eq_false HN.out]; simp), HX.out⟩
  rw [decide_eq_true h4] at hes
  have H4 := Lib.hid h4
  clear h4
  go_enter Tryz.func55, Tryz.ntmps55
  go_wp2_with (go_at_call 116; refine HP.out.mono ?_; rintro e W3 ⟨rfl, hb⟩; have HB3 := Lib.hid (below_trans HX.out hb); clear hb)
  go_ret
  exact ⟨ret_bool (by rw [HF.out, decide_eq_true H1.out, decide_eq_true H2.out, decide_eq_true H3.out, decide_eq_true H4.out]; rfl), HB3.out⟩
theorem sameRefG_any {w : World} {a b : GraphD} {x y : Array Value} (ha : GrRd w a x) (hb : GrRd w b y) : Calls Tryz.prog 17 #[.agg x, .agg y] w fun e w' => e = .returned (.bool (sameGQ a b)) ∧ Below w.heap.size w w' := by
  obtain ⟨pn, cn, pr, cr, rfl, hna, hra⟩ := ha
  obtain ⟨qn, dn, qr, dr, rfl, hnb, hrb⟩ := hb
  have hb1 := below_new (w := w) (.cells #[.slice pn a.nodes.length cn, .slice pr a.rels.length cr, .int .i64 a.nextNode, .int .i64 a.nextRel] 25)
  have hb2 := below_new (w := w.alloc (.cells #[.slice pn a.nodes.length cn, .slice pr a.rels.length cr, .int .i64 a.nextNode, .int .i64 a.nextRel] 25)) (.cells #[.slice qn b.nodes.length dn, .slice qr b.rels.length dr, .int .i64 b.nextNode, .int .i64 b.nextRel] 25)
  have hbc := below_trans hb1 hb2
  have hx8 := belowBlk hb2 (by simp) (heap_alloc_new w (.cells #[.slice pn a.nodes.length cn, .slice pr a.rels.length cr, .int .i64 a.nextNode, .int .i64 a.nextRel] 25))
  have hx9 := heap_alloc_new (w.alloc (.cells #[.slice pn a.nodes.length cn, .slice pr a.rels.length cr, .int .i64 a.nextNode, .int .i64 a.nextRel] 25)) (.cells #[.slice qn b.nodes.length dn, .slice qr b.rels.length dr, .int .i64 b.nextNode, .int .i64 b.nextRel] 25)
  simp only [World.size_alloc] at hx9
  have z1 : (a.nodes.length : Int) ≤ 140737488355328 := by have := hna.1.2.1; omega
  have z2 : (a.rels.length : Int) ≤ 140737488355328 := by have := hra.1.2.1; omega
  have z3 : (b.nodes.length : Int) ≤ 140737488355328 := by have := hnb.1.2.1; omega
  have z4 : (b.rels.length : Int) ≤ 140737488355328 := by have := hrb.1.2.1; omega
  have HX := Lib.hid hbc
  have hn1 := hna.below (fun h => h.below hbc) hbc
  have hn2 := hnb.below (fun h => h.below hbc) hbc
  have hr1 := hra.below (fun h => h.below hbc) hbc
  have hr2 := hrb.below (fun h => h.below hbc) hbc
  have HN := Lib.hid (And.intro hn1 hn2)
  have HR := Lib.hid (And.intro hr1 hr2)
  have q1 : ((w.alloc (.cells #[.slice pn a.nodes.length cn, .slice pr a.rels.length cr, .int .i64 a.nextNode, .int .i64 a.nextRel] 25)).alloc (.cells #[.slice qn b.nodes.length dn, .slice qr b.rels.length dr, .int .i64 b.nextNode, .int .i64 b.nextRel] 25)).cell? ⟨w.heap.size, 0, none⟩ = some (.slice pn a.nodes.length cn) := cellOf (o := 0) hx8 rfl
  have q2 : ((w.alloc (.cells #[.slice pn a.nodes.length cn, .slice pr a.rels.length cr, .int .i64 a.nextNode, .int .i64 a.nextRel] 25)).alloc (.cells #[.slice qn b.nodes.length dn, .slice qr b.rels.length dr, .int .i64 b.nextNode, .int .i64 b.nextRel] 25)).cell? ⟨w.heap.size + 1, 0, none⟩ = some (.slice qn b.nodes.length dn) := cellOf (o := 0) hx9 rfl
  have q3 : ((w.alloc (.cells #[.slice pn a.nodes.length cn, .slice pr a.rels.length cr, .int .i64 a.nextNode, .int .i64 a.nextRel] 25)).alloc (.cells #[.slice qn b.nodes.length dn, .slice qr b.rels.length dr, .int .i64 b.nextNode, .int .i64 b.nextRel] 25)).cell? ⟨w.heap.size, 1, none⟩ = some (.slice pr a.rels.length cr) := cellOf (o := 1) hx8 rfl
  have q4 : ((w.alloc (.cells #[.slice pn a.nodes.length cn, .slice pr a.rels.length cr, .int .i64 a.nextNode, .int .i64 a.nextRel] 25)).alloc (.cells #[.slice qn b.nodes.length dn, .slice qr b.rels.length dr, .int .i64 b.nextNode, .int .i64 b.nextRel] 25)).cell? ⟨w.heap.size + 1, 1, none⟩ = some (.slice qr b.rels.length dr) := cellOf (o := 1) hx9 rfl
  have HC := Lib.hid (And.intro q1 (And.intro q2 (And.intro q3 q4)))
  clear hb1 hb2 hbc hx8 hx9 hna hnb hra hrb hn1 hn2 hr1 hr2 q1 q2 q3 q4
  have HQ1 := Lib.hid (fun e : ¬ a.nextNode = b.nextNode => show sameGQ a b = false by unfold sameGQ; rw [decide_eq_false e]; simp)
  have HQ2 := Lib.hid (fun e : ¬ a.nextRel = b.nextRel => show sameGQ a b = false by unfold sameGQ; rw [decide_eq_false e]; simp)
  have HQ3 := Lib.hid (fun e : ¬ a.nodes.length = b.nodes.length => show sameGQ a b = false by unfold sameGQ; rw [all2_ne e]; simp)
  have HQ4 := Lib.hid (fun e : ¬ a.rels.length = b.rels.length => show sameGQ a b = false by unfold sameGQ; rw [all2_ne e]; simp)
  have HNO := Lib.hid (And.intro (fun e : all2 sameNQ a.nodes b.nodes = false => show sameGQ a b = false by unfold sameGQ; rw [e]; simp) (fun e : all2 sameRQ a.rels b.rels = false => show sameGQ a b = false by unfold sameGQ; rw [e]; simp))
  have HYES := Lib.hid (fun (e3 : a.nextNode = b.nextNode) (e4 : a.nextRel = b.nextRel) (e1 : all2 sameNQ a.nodes b.nodes = true) (e2 : all2 sameRQ a.rels b.rels = true) => show sameGQ a b = true by unfold sameGQ; rw [e1, e2, decide_eq_true e3, decide_eq_true e4]; rfl)
  generalize a.nextNode = m1 at *
  generalize b.nextNode = m2 at *
  generalize a.nextRel = m3 at *
  generalize b.nextRel = m4 at *
  by_cases h1 : m1 = m2
  rotate_left
  · have f1 : (m1 == m2) = false := by rw [beq_eq_false_iff_ne]; exact h1
    have f1b : (m1 != m2) = true := by simp [h1]
    have HF := Lib.hid (HQ1.out h1)
    clear h1
    go_enter Tryz.func17, Tryz.ntmps17
    go_wp2
    go_ret
    exact ⟨ret_bool HF.out.symm, HX.out⟩
  subst h1
  by_cases h2 : m3 = m4
  rotate_left
  · have f2 : (m3 == m4) = false := by rw [beq_eq_false_iff_ne]; exact h2
    have f2b : (m3 != m4) = true := by simp [h2]
    have HF := Lib.hid (HQ2.out h2)
    clear h2
    go_enter Tryz.func17, Tryz.ntmps17
    go_wp2
    go_ret
    exact ⟨ret_bool HF.out.symm, HX.out⟩
  subst h2
  by_cases h3 : a.nodes.length = b.nodes.length
  rotate_left
  · have f3 : ¬ (a.nodes.length : Int) = (b.nodes.length : Int) := by omega
    have k3 : ((a.nodes.length : Int) == (b.nodes.length : Int)) = false := by rw [beq_eq_false_iff_ne]; exact f3
    have HF := Lib.hid (HQ3.out h3)
    clear h3
    go_enter Tryz.func17, Tryz.ntmps17
    go_wp2
    go_ret
    exact ⟨ret_bool HF.out.symm, HX.out⟩
  have HL1 := Lib.hid h3
  have f3 : (b.nodes.length : Int) = (a.nodes.length : Int) := by omega
  clear h3
  by_cases h4 : a.rels.length = b.rels.length
  rotate_left
  · have f4 : ¬ (a.rels.length : Int) = (b.rels.length : Int) := by omega
    have k4 : ((a.rels.length : Int) == (b.rels.length : Int)) = false := by rw [beq_eq_false_iff_ne]; exact f4
    have HF := Lib.hid (HQ4.out h4)
    clear h4
    go_enter Tryz.func17, Tryz.ntmps17
    go_wp2
    go_ret
    exact ⟨ret_bool HF.out.symm, HX.out⟩
  have HL2 := Lib.hid h4
  have f4 : (b.rels.length : Int) = (a.rels.length : Int) := by omega
  clear h4
  go_enter Tryz.func17, Tryz.ntmps17
  go_wp2
  clear f3 f4
  obtain ⟨w2, hw2⟩ : ∃ w2, w2 = ((w.alloc (.cells #[.slice pn a.nodes.length cn, .slice pr a.rels.length cr, .int .i64 m1, .int .i64 m3] 25)).alloc (.cells #[.slice qn b.nodes.length dn, .slice qr b.rels.length dr, .int .i64 m1, .int .i64 m3] 25)) := ⟨_, rfl⟩
  rw [← hw2] at HX HN HR HC ⊢
  clear hw2
  go_loopw [5] (fun i W => ∃ j : Nat, j ≤ a.nodes.length ∧ i = .int .i64 (j : Int) ∧ Hid (AllJ sameNQ a.nodes b.nodes j ∧ Below w2.heap.size w2 W)) (fun i _ => a.nodes.length - (intOf i).toNat)
  case atStart => exact ⟨0, Nat.zero_le _, rfl, Lib.hid ⟨AllJ.zero _ _ _, Below.refl _ _⟩⟩
  case round =>
    obtain ⟨j, hj, rfl, HI⟩ := hrel
    have gw : wr.cell? ⟨w.heap.size, 0, none⟩ = some (.slice pn a.nodes.length cn) := belowCell HI.out.2 (ltOf HC.out.1) HC.out.1
    by_cases hlt : j < a.nodes.length
    · have hlt1 : j + 1 ≤ a.nodes.length := hlt
      have hltb : j < b.nodes.length := by have := HL1.out; omega
      obtain ⟨b1, o1, y1, rfl, hs1, hcc1, hv1⟩ := (HN.out.1.below (fun h => h.below HI.out.2) HI.out.2).get hlt
      obtain ⟨b2, o2, y2, rfl, hs2, hcc2, hv2⟩ := (HN.out.2.below (fun h => h.below HI.out.2) HI.out.2).get hltb
      have g1 := gw
      have g2 : wr.cell? ⟨w.heap.size + 1, 0, none⟩ = some (.slice (some ⟨b2, o2, none⟩) b.nodes.length dn) := belowCell HI.out.2 (ltOf HC.out.2.1) HC.out.2.1
      have hi1 : ∀ W' : World, (Instr.indexAt 22 (.slice (some ⟨b1, o1, none⟩) a.nodes.length cn) (.int .i64 (j : Int))).run Tryz.prog W' = .ok (.pointer (some ⟨b1, o1 + j * 3, none⟩)) W' := fun W' => ia_node hlt W'
      have hi2 : ∀ W' : World, (Instr.indexAt 22 (.slice (some ⟨b2, o2, none⟩) b.nodes.length dn) (.int .i64 (j : Int))).run Tryz.prog W' = .ok (.pointer (some ⟨b2, o2 + j * 3, none⟩)) W' := fun W' => ia_node hltb W'
      have hal := fun W (g : Below wr.heap.size wr W) => sameNodeD_any (hv1.below g) (hv2.below g)
      have hno := all2_no (f := sameNQ) (j := j) hlt hltb
      have hye := HI.out.1.succ hlt hltb
      generalize sameNQ a.nodes[j] b.nodes[j] = av at *
      have HM := Lib.hid (And.intro hno hye)
      have HB1 := Lib.hid HI.out.2
      have hB0 : Below wr.heap.size wr wr.drew := (Below.refl _ wr).drew
      have HY := Lib.hid (And.intro hi1 (And.intro hi2 (And.intro hal (And.intro g1 (And.intro g2 (And.intro hs1 (And.intro hs2 (And.intro hcc1 (And.intro hcc2 hB0)))))))))
      clear hi1 hi2 hal g1 g2 hs1 hs2 hcc1 hcc2 hv1 hv2 hB0 hno hye HI
      go_wp2
      clear gw
      obtain ⟨hi1, hi2, hal, g1, g2, hs1, hs2, hc1, hc2, hB0⟩ := HY.out
      refine plain_region_draws (fun W => Below wr.heap.size wr W) (by kernel_rfl) hB0 (fun hS => ?_)
      refine tk 0 44 (v := .pointer (some ⟨w.heap.size, 0, none⟩)) rfl rfl (fun W hW => exec_fieldAddr rfl rfl (fa_gr 0 (by omega) _ W)) ?_
      simp only [Act.put, sA, sZ, sS]
      refine tk 1 45 (v := .slice (some ⟨b1, o1, none⟩) a.nodes.length cn) rfl rfl (fun W hW => exec_load rfl rfl (run_load1 (w := W) Tryz.underlying22 rfl (belowCell hW (ltOf g1) g1))) ?_
      simp only [Act.put, sA, sZ, sS]
      refine tk 2 46 (v := .int .i64 (j : Int)) rfl rfl (fun W hW => exec_move rfl rfl) ?_
      simp only [Act.put, sA, sZ, sS]
      refine tk 3 47 (v := .pointer (some ⟨b1, o1 + j * 3, none⟩)) rfl rfl (fun W hW => exec_indexAddr rfl rfl rfl (hi1 W)) ?_
      simp only [Act.put, sA, sZ, sS]
      refine tk 4 48 (v := .agg y1) rfl rfl (fun W hW => exec_load rfl rfl (StT.load (P := Tryz.prog) (W := W) st_node hs1 fun i u hu => belowCell hW (ltOf (hc1 i u hu)) (hc1 i u hu))) ?_
      simp only [Act.put, sA, sZ, sS]
      refine tk 5 49 (v := .pointer (some ⟨w.heap.size + 1, 0, none⟩)) rfl rfl (fun W hW => exec_fieldAddr rfl rfl (fa_gr 0 (by omega) _ W)) ?_
      simp only [Act.put, sA, sZ, sS]
      refine tk 6 50 (v := .slice (some ⟨b2, o2, none⟩) b.nodes.length dn) rfl rfl (fun W hW => exec_load rfl rfl (run_load1 (w := W) Tryz.underlying22 rfl (belowCell hW (ltOf g2) g2))) ?_
      simp only [Act.put, sA, sZ, sS]
      refine tk 7 51 (v := .int .i64 (j : Int)) rfl rfl (fun W hW => exec_move rfl rfl) ?_
      simp only [Act.put, sA, sZ, sS]
      refine tk 8 52 (v := .pointer (some ⟨b2, o2 + j * 3, none⟩)) rfl rfl (fun W hW => exec_indexAddr rfl rfl rfl (hi2 W)) ?_
      simp only [Act.put, sA, sZ, sS]
      refine tk 9 53 (v := .agg y2) rfl rfl (fun W hW => exec_load rfl rfl (StT.load (P := Tryz.prog) (W := W) st_node hs2 fun i u hu => belowCell hW (ltOf (hc2 i u hu)) (hc2 i u hu))) ?_
      simp only [Act.put, sA, sZ, sS]
      refine onlyCall 10 54 rfl rfl (by kernel_rfl) rfl (exec_call [.agg y1, .agg y2] rfl rfl Tryz.func54 (by kernel_rfl) (by kernel_rfl)) ?_
      refine (hal _ hS).mono ?_
      rintro e W10 ⟨rfl, hb10⟩
      have hS10 := below_trans hS hb10
      refine ⟨_, rfl, .inr hS10, ?_⟩
      simp only [Act.put, sA, sZ, sS]
      refine tk 11 55 (v := .bool (!av)) rfl rfl (fun W hW => exec_unot rfl rfl) ?_
      simp only [Act.put, sA, sZ, sS]
      refine done (by kernel_rfl) ?_ _
      have HB := Lib.hid (below_trans HB1.out hS10)
      clear hi1 hi2 hal g1 g2 hs1 hs2 hc1 hc2 hB0 hS HY hS10 hb10
      cases av with
      | false =>
        have HF := Lib.hid (HNO.out.1 (HM.out.1 rfl))
        clear HM
        go_wp2
        go_ret
        exact ⟨ret_bool HF.out.symm, below_trans HX.out HB.out⟩
      | true =>
        go_wp2
        go_roundw
        case rel => exact ⟨j + 1, hlt1, by go_num, Lib.hid ⟨HM.out.2 rfl, HB.out⟩⟩
        case measure => simp [intOf]; omega
    · obtain rfl : j = a.nodes.length := by omega
      have HAN := Lib.hid (HI.out.1.all HL1.out)
      have HB := Lib.hid HI.out.2
      clear HI
      have gr : wr.cell? ⟨w.heap.size, 1, none⟩ = some (.slice pr a.rels.length cr) := belowCell HB.out (ltOf HC.out.2.2.1) HC.out.2.2.1
      go_wp2
      clear gw gr
      go_loopw [6] (fun i W => ∃ j : Nat, j ≤ a.rels.length ∧ i = .int .i64 (j : Int) ∧ Hid (AllJ sameRQ a.rels b.rels j ∧ Below w2.heap.size w2 W)) (fun i _ => a.rels.length - (intOf i).toNat)
      case atStart => exact ⟨0, Nat.zero_le _, rfl, Lib.hid ⟨AllJ.zero _ _ _, HB.out⟩⟩
      case round =>
        obtain ⟨j, hj, rfl, HI⟩ := hrel
        have gw : wr.cell? ⟨w.heap.size, 1, none⟩ = some (.slice pr a.rels.length cr) := belowCell HI.out.2 (ltOf HC.out.2.2.1) HC.out.2.2.1
        by_cases hlt : j < a.rels.length
        · have hlt1 : j + 1 ≤ a.rels.length := hlt
          have hltb : j < b.rels.length := by have := HL2.out; omega
          obtain ⟨b1, o1, y1, rfl, hs1, hcc1, hv1⟩ := (HR.out.1.below (fun h => h.below HI.out.2) HI.out.2).get hlt
          obtain ⟨b2, o2, y2, rfl, hs2, hcc2, hv2⟩ := (HR.out.2.below (fun h => h.below HI.out.2) HI.out.2).get hltb
          have g1 := gw
          have g2 : wr.cell? ⟨w.heap.size + 1, 1, none⟩ = some (.slice (some ⟨b2, o2, none⟩) b.rels.length dr) := belowCell HI.out.2 (ltOf HC.out.2.2.2) HC.out.2.2.2
          have hi1 : ∀ W' : World, (Instr.indexAt 23 (.slice (some ⟨b1, o1, none⟩) a.rels.length cr) (.int .i64 (j : Int))).run Tryz.prog W' = .ok (.pointer (some ⟨b1, o1 + j * 5, none⟩)) W' := fun W' => ia_rel hlt W'
          have hi2 : ∀ W' : World, (Instr.indexAt 23 (.slice (some ⟨b2, o2, none⟩) b.rels.length dr) (.int .i64 (j : Int))).run Tryz.prog W' = .ok (.pointer (some ⟨b2, o2 + j * 5, none⟩)) W' := fun W' => ia_rel hltb W'
          have hal := fun W (g : Below wr.heap.size wr W) => sameRelD_any (hv1.below g) (hv2.below g)
          have hno := all2_no (f := sameRQ) (j := j) hlt hltb
          have hye := HI.out.1.succ hlt hltb
          generalize sameRQ a.rels[j] b.rels[j] = av at *
          have HM := Lib.hid (And.intro hno hye)
          have HB1 := Lib.hid HI.out.2
          have hB0 : Below wr.heap.size wr wr.drew := (Below.refl _ wr).drew
          have HY := Lib.hid (And.intro hi1 (And.intro hi2 (And.intro hal (And.intro g1 (And.intro g2 (And.intro hs1 (And.intro hs2 (And.intro hcc1 (And.intro hcc2 hB0)))))))))
          clear hi1 hi2 hal g1 g2 hs1 hs2 hcc1 hcc2 hv1 hv2 hB0 hno hye HI
          go_wp2
          clear gw
          obtain ⟨hi1, hi2, hal, g1, g2, hs1, hs2, hc1, hc2, hB0⟩ := HY.out
          refine plain_region_draws (fun W => Below wr.heap.size wr W) (by kernel_rfl) hB0 (fun hS => ?_)
          refine tk 0 63 (v := .pointer (some ⟨w.heap.size, 1, none⟩)) rfl rfl (fun W hW => exec_fieldAddr rfl rfl (fa_gr 1 (by omega) _ W)) ?_
          simp only [Act.put, sA, sZ, sS]
          refine tk 1 64 (v := .slice (some ⟨b1, o1, none⟩) a.rels.length cr) rfl rfl (fun W hW => exec_load rfl rfl (run_load1 (w := W) Tryz.underlying23 rfl (belowCell hW (ltOf g1) g1))) ?_
          simp only [Act.put, sA, sZ, sS]
          refine tk 2 65 (v := .int .i64 (j : Int)) rfl rfl (fun W hW => exec_move rfl rfl) ?_
          simp only [Act.put, sA, sZ, sS]
          refine tk 3 66 (v := .pointer (some ⟨b1, o1 + j * 5, none⟩)) rfl rfl (fun W hW => exec_indexAddr rfl rfl rfl (hi1 W)) ?_
          simp only [Act.put, sA, sZ, sS]
          refine tk 4 67 (v := .agg y1) rfl rfl (fun W hW => exec_load rfl rfl (StT.load (P := Tryz.prog) (W := W) st_rel hs1 fun i u hu => belowCell hW (ltOf (hc1 i u hu)) (hc1 i u hu))) ?_
          simp only [Act.put, sA, sZ, sS]
          refine tk 5 68 (v := .pointer (some ⟨w.heap.size + 1, 1, none⟩)) rfl rfl (fun W hW => exec_fieldAddr rfl rfl (fa_gr 1 (by omega) _ W)) ?_
          simp only [Act.put, sA, sZ, sS]
          refine tk 6 69 (v := .slice (some ⟨b2, o2, none⟩) b.rels.length dr) rfl rfl (fun W hW => exec_load rfl rfl (run_load1 (w := W) Tryz.underlying23 rfl (belowCell hW (ltOf g2) g2))) ?_
          simp only [Act.put, sA, sZ, sS]
          refine tk 7 70 (v := .int .i64 (j : Int)) rfl rfl (fun W hW => exec_move rfl rfl) ?_
          simp only [Act.put, sA, sZ, sS]
          refine tk 8 71 (v := .pointer (some ⟨b2, o2 + j * 5, none⟩)) rfl rfl (fun W hW => exec_indexAddr rfl rfl rfl (hi2 W)) ?_
          simp only [Act.put, sA, sZ, sS]
          refine tk 9 72 (v := .agg y2) rfl rfl (fun W hW => exec_load rfl rfl (StT.load (P := Tryz.prog) (W := W) st_rel hs2 fun i u hu => belowCell hW (ltOf (hc2 i u hu)) (hc2 i u hu))) ?_
          simp only [Act.put, sA, sZ, sS]
          refine onlyCall 10 73 rfl rfl (by kernel_rfl) rfl (exec_call [.agg y1, .agg y2] rfl rfl Tryz.func55 (by kernel_rfl) (by kernel_rfl)) ?_
          refine (hal _ hS).mono ?_
          rintro e W10 ⟨rfl, hb10⟩
          have hS10 := below_trans hS hb10
          refine ⟨_, rfl, .inr hS10, ?_⟩
          simp only [Act.put, sA, sZ, sS]
          refine tk 11 74 (v := .bool (!av)) rfl rfl (fun W hW => exec_unot rfl rfl) ?_
          simp only [Act.put, sA, sZ, sS]
          refine done (by kernel_rfl) ?_ _
          have HB := Lib.hid (below_trans HB1.out hS10)
          clear hi1 hi2 hal g1 g2 hs1 hs2 hc1 hc2 hB0 hS HY hS10 hb10
          cases av with
          | false =>
            have HF := Lib.hid (HNO.out.2 (HM.out.1 rfl))
            clear HM
            go_wp2
            go_ret
            exact ⟨ret_bool HF.out.symm, below_trans HX.out HB.out⟩
          | true =>
            go_wp2
            go_roundw
            case rel => exact ⟨j + 1, hlt1, by go_num, Lib.hid ⟨HM.out.2 rfl, HB.out⟩⟩
            case measure => simp [intOf]; omega
        · obtain rfl : j = a.rels.length := by omega
          have HAR := Lib.hid (HI.out.1.all HL2.out)
          have HB := Lib.hid HI.out.2
          clear HI
          go_wp2
          go_ret
          exact ⟨ret_bool (HYES.out trivial trivial HAN.out HAR.out).symm, below_trans HX.out HB.out⟩
end Go.Proofs.YtihfnegakcghiaaGreatDoor
namespace Go.Proofs.YtihfnegakcghiaaGreatDoor
open Go.RowKit
def SomeB (e : Ending) : Prop := ∃ b : Bool, e = .returned (.bool b)
theorem heavy_any {w : World} {p : Option Addr} {c : Nat} {l : List PropD} (h : GRd PRd 7 w p c l) (ht : ∀ x ∈ l, totV x.val ≤ 1099511627776) : Calls Tryz.prog 31 #[.slice p l.length c] w fun e w' => SomeB e ∧ Below w.heap.size w w' := by
  have z1 : (l.length : Int) ≤ 140737488355328 := by have := h.1.2.1; omega
  have H := Lib.hid (And.intro h ht)
  clear h ht
  go_enter Tryz.func31, Tryz.ntmps31
  go_wp2
  go_loopw [3] (fun i W => ∃ j : Nat, j ≤ l.length ∧ i = .int .i64 (j : Int) ∧ Hid (Below w.heap.size w W)) (fun i _ => l.length - (intOf i).toNat)
  case atStart => exact ⟨0, Nat.zero_le _, rfl, Lib.hid (Below.refl _ _)⟩
  case round =>
    obtain ⟨j, hj, rfl, HI⟩ := hrel
    by_cases hlt : j < l.length
    · have hlt1 : j + 1 ≤ l.length := hlt
      obtain ⟨b1, o1, cs1, rfl, _, hcc1, hv1⟩ := (H.out.1.below (fun h => h.below HI.out) HI.out).get hlt
      have hto := H.out.2 _ (List.getElem_mem hlt)
      obtain ⟨q1, hkl, y1, hu1, r1⟩ := prop_cells hv1 hcc1
      have HL := Lib.hid (StT.load (P := Tryz.prog) (W := wr) st_val (ef_val.size hu1) fun i u hu => r1 i u hu)
      have HZ := Lib.hid (sizeR_any _ wr y1 hto hu1)
      have HK := Lib.hid q1
      have hsz : (strB l[j].key).size = l[j].key.length := by simp [strB, ByteArray.size]
      clear hcc1 hv1 hu1 r1 hto q1
      generalize (countV l[j].val : Int) = n1 at *
      generalize (bytesV l[j].val : Int) = n2 at *
      generalize l[j].key = s at *
      by_cases a1 : 200 < n1
      · have a1b : decide (200 < n1) = true := decide_eq_true a1
        clear a1
        go_wp2_with (first
          | ((with_reducible apply op_load); exact HL.out; exact rfl)
          | (go_at_call 32; refine HZ.out.mono ?_; rintro e W2 ⟨rfl, hb⟩; have HB := Lib.hid (below_trans HI.out hb); have hk0 := belowCell hb (ltOf HK.out) HK.out; clear hb))
        go_ret
        exact ⟨⟨_, rfl⟩, HB.out⟩
      have a1b : decide (200 < n1) = false := decide_eq_false a1
      clear a1
      by_cases a2 : 5000 < n2
      · have a2b : decide (5000 < n2) = true := decide_eq_true a2
        clear a2
        go_wp2_with (first
          | ((with_reducible apply op_load); exact HL.out; exact rfl)
          | (go_at_call 32; refine HZ.out.mono ?_; rintro e W2 ⟨rfl, hb⟩; have HB := Lib.hid (below_trans HI.out hb); have hk0 := belowCell hb (ltOf HK.out) HK.out; clear hb))
        go_ret
        exact ⟨⟨_, rfl⟩, HB.out⟩
      have a2b : decide (5000 < n2) = false := decide_eq_false a2
      clear a2
      by_cases a3 : 1000 < (s.length : Int)
      · have a3b : decide (1000 < (s.length : Int)) = true := decide_eq_true a3
        go_wp2_with (first
          | ((with_reducible apply op_load); exact HL.out; exact rfl)
          | (go_at_call 32; refine HZ.out.mono ?_; rintro e W2 ⟨rfl, hb⟩; have HB := Lib.hid (below_trans HI.out hb); have hk0 := belowCell hb (ltOf HK.out) HK.out; clear hb))
        go_ret
        exact ⟨⟨_, rfl⟩, HB.out⟩
      · have a3b : decide (1000 < (s.length : Int)) = false := decide_eq_false a3
        go_wp2_with (first
          | ((with_reducible apply op_load); exact HL.out; exact rfl)
          | (go_at_call 32; refine HZ.out.mono ?_; rintro e W2 ⟨rfl, hb⟩; have HB := Lib.hid (below_trans HI.out hb); have hk0 := belowCell hb (ltOf HK.out) HK.out; clear hb))
        go_roundw
        case rel => exact ⟨j + 1, hlt1, by go_num, HB⟩
        case measure => simp [intOf]; omega
    · obtain rfl : j = l.length := by omega
      go_wp2
      go_ret
      exact ⟨⟨_, rfl⟩, HI.out⟩
theorem exec_lenPs {a : Act} {w : World} {o : Oper} {x : Operand} {p : Option Addr} {n c : Nat} (ho : o.op = .call { callee := .builtin .len, args := #[x], argTypes := #[27] }) (hx : a.eval x = .slice p n c) : (execOp a.eval o).run Tryz.prog w = .ok (.value (.int .i64 (n : Int))) w := by
  unfold execOp; simp only [ho, resolve, invoke, Sem.run_bind, Sem.run_pure, Result.andThen_ok, List.map_toArray, List.map_cons, List.map_nil, hx]; simp [go_sem]
theorem exec_lenTs {a : Act} {w : World} {o : Oper} {x : Operand} {p : Option Addr} {n c : Nat} (ho : o.op = .call { callee := .builtin .len, args := #[x], argTypes := #[26] }) (hx : a.eval x = .slice p n c) : (execOp a.eval o).run Tryz.prog w = .ok (.value (.int .i64 (n : Int))) w := by
  unfold execOp; simp only [ho, resolve, invoke, Sem.run_bind, Sem.run_pure, Result.andThen_ok, List.map_toArray, List.map_cons, List.map_nil, hx]; simp [go_sem]
theorem add_len {n m : Nat} (h1 : n ≤ 140737488355328) (h2 : m ≤ 140737488355328) (W : World) : (binOp .add 3 (.int .i64 (n : Int)) (.int .i64 (m : Int))).run Tryz.prog W = .ok (.int .i64 ((n : Int) + (m : Int))) W := by
  have e : IntKind.i64.wrap ((n : Int) + (m : Int)) = (n : Int) + (m : Int) := by rw [IntKind.wrap_i64]; omega
  simp [go_sem, e]
theorem gtr_12 (n : Int) (W : World) : (binOp .gtr 3 (.int .i64 n) (.int .i64 12)).run Tryz.prog W = .ok (.bool (decide (12 < n))) W := by simp [go_sem]
theorem fa_ndo (i : Nat) (h : i < 3) (b o : Nat) (W : World) : (Instr.fieldAt 45 (.pointer (some ⟨b, o, none⟩)) i).run Tryz.prog W = .ok (.pointer (some ⟨b, o + i, none⟩)) W := by
  match i, h with
  | 0, _ => simp [go_sem]
  | 1, _ => simp [go_sem]
  | 2, _ => simp [go_sem]
theorem vast_any {w : World} {g : GraphD} {x : Array Value} (h : GrRd w g x) (ht : GTot g) : Calls Tryz.prog 9 #[.agg x] w fun e w' => SomeB e ∧ Below w.heap.size w w' := by
  obtain ⟨pn, cn, pr, cr, rfl, hn, hr⟩ := h
  have hb1 := below_new (w := w) (.cells #[.slice pn g.nodes.length cn, .slice pr g.rels.length cr, .int .i64 g.nextNode, .int .i64 g.nextRel] 25)
  have hx1 := heap_alloc_new w (.cells #[.slice pn g.nodes.length cn, .slice pr g.rels.length cr, .int .i64 g.nextNode, .int .i64 g.nextRel] 25)
  have p0 : (w.alloc (.cells #[.slice pn g.nodes.length cn, .slice pr g.rels.length cr, .int .i64 g.nextNode, .int .i64 g.nextRel] 25)).cell? ⟨w.heap.size, 0, none⟩ = some (.slice pn g.nodes.length cn) := cellOf (o := 0) hx1 rfl
  have p1 : (w.alloc (.cells #[.slice pn g.nodes.length cn, .slice pr g.rels.length cr, .int .i64 g.nextNode, .int .i64 g.nextRel] 25)).cell? ⟨w.heap.size, 1, none⟩ = some (.slice pr g.rels.length cr) := cellOf (o := 1) hx1 rfl
  have z1 : (g.nodes.length : Int) ≤ 140737488355328 := by have := hn.1.2.1; omega
  have z2 : (g.rels.length : Int) ≤ 140737488355328 := by have := hr.1.2.1; omega
  have hn1 := hn.below (fun h => h.below hb1) hb1
  have hr1 := hr.below (fun h => h.below hb1) hb1
  have HX := Lib.hid hb1
  have HC := Lib.hid (And.intro p0 p1)
  have HN := Lib.hid (And.intro hn1 hr1)
  have HT := Lib.hid ht
  clear hn hr hb1 hx1 p0 p1 hn1 hr1 ht
  by_cases a1 : (60 : Int) < (g.nodes.length : Int)
  · have a1b : decide ((60 : Int) < (g.nodes.length : Int)) = true := decide_eq_true a1
    go_enter Tryz.func9, Tryz.ntmps9
    go_wp2
    go_ret
    exact ⟨⟨_, rfl⟩, HX.out⟩
  have a1b : decide ((60 : Int) < (g.nodes.length : Int)) = false := decide_eq_false a1
  by_cases a2 : (60 : Int) < (g.rels.length : Int)
  · have a2b : decide ((60 : Int) < (g.rels.length : Int)) = true := decide_eq_true a2
    go_enter Tryz.func9, Tryz.ntmps9
    go_wp2
    go_ret
    exact ⟨⟨_, rfl⟩, HX.out⟩
  have a2b : decide ((60 : Int) < (g.rels.length : Int)) = false := decide_eq_false a2
  go_enter Tryz.func9, Tryz.ntmps9
  go_wp2
  clear a1 a1b a2 a2b
  obtain ⟨w2, hw2⟩ : ∃ w2, w2 = (w.alloc (.cells #[.slice pn g.nodes.length cn, .slice pr g.rels.length cr, .int .i64 g.nextNode, .int .i64 g.nextRel] 25)) := ⟨_, rfl⟩
  rw [← hw2] at HX HN HC ⊢
  clear hw2
  go_loopw [3] (fun i W => ∃ j : Nat, j ≤ g.nodes.length ∧ i = .int .i64 (j : Int) ∧ Hid (Below w2.heap.size w2 W)) (fun i _ => g.nodes.length - (intOf i).toNat)
  case atStart => exact ⟨0, Nat.zero_le _, rfl, Lib.hid (Below.refl _ _)⟩
  case round =>
    obtain ⟨j, hj, rfl, HI⟩ := hrel
    have gw : wr.cell? ⟨w.heap.size, 0, none⟩ = some (.slice pn g.nodes.length cn) := belowCell HI.out (ltOf HC.out.1) HC.out.1
    by_cases hlt : j < g.nodes.length
    · have hlt1 : j + 1 ≤ g.nodes.length := hlt
      obtain ⟨b1, o1, cs, rfl, _, hcc, hv⟩ := (HN.out.1.below (fun h => h.below HI.out) HI.out).get hlt
      have htv := HT.out.1 _ (List.getElem_mem hlt)
      obtain ⟨pl, cl, pp, cp, rfl, hls, hps⟩ := hv
      have g0 := gw
      have c1 : wr.cell? ⟨b1, o1 + j * 3 + 1, none⟩ = some (.slice pl g.nodes[j].labels.length cl) := hcc 1 _ rfl
      have c2 : wr.cell? ⟨b1, o1 + j * 3 + 2, none⟩ = some (.slice pp g.nodes[j].props.length cp) := hcc 2 _ rfl
      have hi1 : ∀ W' : World, (Instr.indexAt 22 (.slice (some ⟨b1, o1, none⟩) g.nodes.length cn) (.int .i64 (j : Int))).run Tryz.prog W' = .ok (.pointer (some ⟨b1, o1 + j * 3, none⟩)) W' := fun W' => ia_node hlt W'
      have hhv := fun W (gg : Below wr.heap.size wr W) => heavy_any (w := W) (hps.below (fun h => h.below gg) gg) htv
      have hadd := fun W => add_len (n := g.nodes[j].labels.length) (m := g.nodes[j].props.length) (by have := hls.2.1.1; omega) (by have := hps.1.2.1; omega) W
      have h1 := fun W => gtr_12 ((g.nodes[j].labels.length : Int) + (g.nodes[j].props.length : Int)) W
      generalize decide (12 < (g.nodes[j].labels.length : Int) + (g.nodes[j].props.length : Int)) = bA at *
      have HB1 := Lib.hid HI.out
      have hB0 : Below wr.heap.size wr wr.drew := (Below.refl _ wr).drew
      clear hps hls hcc htv HI
      generalize g.nodes[j].labels.length = nl at *
      generalize g.nodes[j].props.length = np at *
      have HY := Lib.hid (And.intro hi1 (And.intro hhv (And.intro hadd (And.intro h1 (And.intro g0 (And.intro c1 (And.intro c2 hB0)))))))
      clear hi1 hhv hadd h1 g0 c1 c2 hB0
      go_wp2
      clear gw
      obtain ⟨hi1, hhv, hadd, h1, g0, c1, c2, hB0⟩ := HY.out
      refine plain_region_draws (fun W => Below wr.heap.size wr W) (by kernel_rfl) hB0 (fun hS => ?_)
      refine tk 0 22 (v := .pointer (some ⟨w.heap.size, 0, none⟩)) rfl rfl (fun W hW => exec_fieldAddr rfl rfl (fa_gr 0 (by omega) _ W)) ?_
      simp only [Act.put, sA, sZ, sS]
      refine tk 1 23 (v := .slice (some ⟨b1, o1, none⟩) g.nodes.length cn) rfl rfl (fun W hW => exec_load rfl rfl (run_load1 (w := W) Tryz.underlying22 rfl (belowCell hW (ltOf g0) g0))) ?_
      simp only [Act.put, sA, sZ, sS]
      refine tk 2 24 (v := .int .i64 (j : Int)) rfl rfl (fun W hW => exec_move rfl rfl) ?_
      simp only [Act.put, sA, sZ, sS]
      refine tk 3 25 (v := .pointer (some ⟨b1, o1 + j * 3, none⟩)) rfl rfl (fun W hW => exec_indexAddr rfl rfl rfl (hi1 W)) ?_
      simp only [Act.put, sA, sZ, sS]
      refine tk 4 26 (v := .pointer (some ⟨b1, o1 + j * 3 + 1, none⟩)) rfl rfl (fun W hW => exec_fieldAddr rfl rfl (fa_ndo 1 (by omega) _ _ W)) ?_
      simp only [Act.put, sA, sZ, sS]
      refine tk 5 27 (v := .slice pl nl cl) rfl rfl (fun W hW => exec_load rfl rfl (run_load1 (w := W) Tryz.underlying26 rfl (belowCell hW (ltOf c1) c1))) ?_
      simp only [Act.put, sA, sZ, sS]
      refine tk 6 28 (v := .int .i64 (nl : Int)) rfl rfl (fun W hW => exec_lenTs rfl rfl) ?_
      simp only [Act.put, sA, sZ, sS]
      refine tk 7 29 (v := .pointer (some ⟨w.heap.size, 0, none⟩)) rfl rfl (fun W hW => exec_fieldAddr rfl rfl (fa_gr 0 (by omega) _ W)) ?_
      simp only [Act.put, sA, sZ, sS]
      refine tk 8 30 (v := .slice (some ⟨b1, o1, none⟩) g.nodes.length cn) rfl rfl (fun W hW => exec_load rfl rfl (run_load1 (w := W) Tryz.underlying22 rfl (belowCell hW (ltOf g0) g0))) ?_
      simp only [Act.put, sA, sZ, sS]
      refine tk 9 31 (v := .int .i64 (j : Int)) rfl rfl (fun W hW => exec_move rfl rfl) ?_
      simp only [Act.put, sA, sZ, sS]
      refine tk 10 32 (v := .pointer (some ⟨b1, o1 + j * 3, none⟩)) rfl rfl (fun W hW => exec_indexAddr rfl rfl rfl (hi1 W)) ?_
      simp only [Act.put, sA, sZ, sS]
      refine tk 11 33 (v := .pointer (some ⟨b1, o1 + j * 3 + 2, none⟩)) rfl rfl (fun W hW => exec_fieldAddr rfl rfl (fa_ndo 2 (by omega) _ _ W)) ?_
      simp only [Act.put, sA, sZ, sS]
      refine tk 12 34 (v := .slice pp np cp) rfl rfl (fun W hW => exec_load rfl rfl (run_load1 (w := W) Tryz.underlying27 rfl (belowCell hW (ltOf c2) c2))) ?_
      simp only [Act.put, sA, sZ, sS]
      refine tk 13 35 (v := .int .i64 (np : Int)) rfl rfl (fun W hW => exec_lenPs rfl rfl) ?_
      simp only [Act.put, sA, sZ, sS]
      refine tk 14 36 (v := .int .i64 ((nl : Int) + (np : Int))) rfl rfl (fun W hW => exec_bini rfl rfl rfl (hadd W)) ?_
      simp only [Act.put, sA, sZ, sS]
      cases bA with
      | true =>
        refine tk 15 37 (v := .bool true) rfl rfl (fun W hW => exec_bini rfl rfl rfl (h1 W)) ?_
        simp only [Act.put, sA, sZ, sS]
        refine tk 16 38 (v := .bool true) rfl rfl (fun W hW => exec_move rfl rfl) ?_
        simp only [Act.put, sA, sZ, sS]
        refine tn 17 39 rfl rfl ?_
        simp only [Act.put, sA, sZ, sS]
        refine tn 18 40 rfl rfl ?_
        simp only [Act.put, sA, sZ, sS]
        refine tn 19 41 rfl rfl ?_
        simp only [Act.put, sA, sZ, sS]
        refine tn 20 42 rfl rfl ?_
        simp only [Act.put, sA, sZ, sS]
        refine tn 21 43 rfl rfl ?_
        simp only [Act.put, sA, sZ, sS]
        refine tn 22 44 rfl rfl ?_
        simp only [Act.put, sA, sZ, sS]
        refine onlyNot 23 45 rfl rfl (by kernel_rfl) rfl ?_ (.inr (by assumption))
        simp only [Act.put, sA, sZ, sS]
        refine tk 24 46 (v := .bool true) rfl rfl (fun W hW => rfl) ?_
        simp only [Act.put, sA, sZ, sS]
        refine done (by kernel_rfl) ?_ _
        have HB := Lib.hid (below_trans HB1.out hS)
        clear hS hi1 hhv hadd h1 g0 c1 c2 hB0 HY
        go_wp2
        go_ret
        exact ⟨⟨_, rfl⟩, below_trans HX.out HB.out⟩
      | false =>
        refine tk 15 37 (v := .bool false) rfl rfl (fun W hW => exec_bini rfl rfl rfl (h1 W)) ?_
        simp only [Act.put, sA, sZ, sS]
        refine tk 16 38 (v := .bool false) rfl rfl (fun W hW => exec_move rfl rfl) ?_
        simp only [Act.put, sA, sZ, sS]
        refine tk 17 39 (v := .pointer (some ⟨w.heap.size, 0, none⟩)) rfl rfl (fun W hW => exec_fieldAddr rfl rfl (fa_gr 0 (by omega) _ W)) ?_
        simp only [Act.put, sA, sZ, sS]
        refine tk 18 40 (v := .slice (some ⟨b1, o1, none⟩) g.nodes.length cn) rfl rfl (fun W hW => exec_load rfl rfl (run_load1 (w := W) Tryz.underlying22 rfl (belowCell hW (ltOf g0) g0))) ?_
        simp only [Act.put, sA, sZ, sS]
        refine tk 19 41 (v := .int .i64 (j : Int)) rfl rfl (fun W hW => exec_move rfl rfl) ?_
        simp only [Act.put, sA, sZ, sS]
        refine tk 20 42 (v := .pointer (some ⟨b1, o1 + j * 3, none⟩)) rfl rfl (fun W hW => exec_indexAddr rfl rfl rfl (hi1 W)) ?_
        simp only [Act.put, sA, sZ, sS]
        refine tk 21 43 (v := .pointer (some ⟨b1, o1 + j * 3 + 2, none⟩)) rfl rfl (fun W hW => exec_fieldAddr rfl rfl (fa_ndo 2 (by omega) _ _ W)) ?_
        simp only [Act.put, sA, sZ, sS]
        refine tk 22 44 (v := .slice pp np cp) rfl rfl (fun W hW => exec_load rfl rfl (run_load1 (w := W) Tryz.underlying27 rfl (belowCell hW (ltOf c2) c2))) ?_
        simp only [Act.put, sA, sZ, sS]
        refine onlyCall 23 45 rfl rfl (by kernel_rfl) rfl (exec_call [.slice pp np cp] rfl rfl Tryz.func31 (by kernel_rfl) (by kernel_rfl)) ?_
        refine (hhv _ hS).mono ?_
        rintro e W23 ⟨⟨bh, rfl⟩, hb23⟩
        have hS23 := below_trans hS hb23
        refine ⟨_, rfl, .inr hS23, ?_⟩
        simp only [Act.put, sA, sZ, sS]
        refine tk 24 46 (v := .bool bh) rfl rfl (fun W hW => rfl) ?_
        simp only [Act.put, sA, sZ, sS]
        refine done (by kernel_rfl) ?_ _
        have HB := Lib.hid (below_trans HB1.out hS23)
        clear hS hS23 hb23 hi1 hhv hadd h1 g0 c1 c2 hB0 HY
        cases bh with
        | true =>
          go_wp2
          go_ret
          exact ⟨⟨_, rfl⟩, below_trans HX.out HB.out⟩
        | false =>
          go_wp2
          go_roundw
          case rel => exact ⟨j + 1, hlt1, by go_num, Lib.hid HB.out⟩
          case measure => simp [intOf]; omega
    · obtain rfl : j = g.nodes.length := by omega
      have HB := Lib.hid HI.out
      have gr : wr.cell? ⟨w.heap.size, 1, none⟩ = some (.slice pr g.rels.length cr) := belowCell HB.out (ltOf HC.out.2) HC.out.2
      clear HI
      go_wp2
      clear gw gr
      go_loopw [4] (fun i W => ∃ j : Nat, j ≤ g.rels.length ∧ i = .int .i64 (j : Int) ∧ Hid (Below w2.heap.size w2 W)) (fun i _ => g.rels.length - (intOf i).toNat)
      case atStart => exact ⟨0, Nat.zero_le _, rfl, Lib.hid HB.out⟩
      case round =>
        rename_i wr0 wr
        clear HB
        obtain ⟨j, hj, rfl, HI⟩ := hrel
        have gw : wr.cell? ⟨w.heap.size, 1, none⟩ = some (.slice pr g.rels.length cr) := belowCell HI.out (ltOf HC.out.2) HC.out.2
        by_cases hlt : j < g.rels.length
        · have hlt1 : j + 1 ≤ g.rels.length := hlt
          obtain ⟨b1, o1, cs, rfl, _, hcc, hv⟩ := (HN.out.2.below (fun h => h.below HI.out) HI.out).get hlt
          have htv := HT.out.2 _ (List.getElem_mem hlt)
          obtain ⟨pp, cp, rfl, hty, hps⟩ := hv
          have c4 : wr.cell? ⟨b1, o1 + j * 5 + 4, none⟩ = some (.slice pp g.rels[j].props.length cp) := hcc 4 _ rfl
          have HV := Lib.hid (heavy_any hps htv)
          clear hps hty hcc htv
          generalize g.rels[j].props.length = np at *
          by_cases a3 : (12 : Int) < (np : Int)
          · have a3b : decide ((12 : Int) < (np : Int)) = true := decide_eq_true a3
            go_wp2
            go_ret
            exact ⟨⟨_, rfl⟩, below_trans HX.out HI.out⟩
          have a3b : decide ((12 : Int) < (np : Int)) = false := decide_eq_false a3
          go_wp2_with (go_at_call 31; refine HV.out.mono ?_; rintro e W2 ⟨⟨bh, rfl⟩, hb⟩; have HB := Lib.hid (below_trans HI.out hb); clear hb; cases bh)
          · go_roundw
            case rel => exact ⟨j + 1, hlt1, by go_num, HB⟩
            case measure => simp [intOf]; omega
          · go_ret
            exact ⟨⟨_, rfl⟩, below_trans HX.out HB.out⟩
        · obtain rfl : j = g.rels.length := by omega
          go_wp2
          go_ret
          exact ⟨⟨_, rfl⟩, below_trans HX.out HI.out⟩
end Go.Proofs.YtihfnegakcghiaaGreatDoor
namespace Go.Proofs.YtihfnegakcghiaaGreatDoor
open Go.RowKit
theorem ef_graph : EF GrRd 4 := by
  refine ⟨fun h g => h.below g, fun h => ?_, fun h u hu => ?_⟩
  · obtain ⟨pn, cn, pr, cr, rfl, _⟩ := h; rfl
  · obtain ⟨pn, cn, pr, cr, rfl, _⟩ := h
    simp only [List.mem_cons, List.not_mem_nil, or_false] at hu
    rcases hu with rfl | rfl | rfl | rfl <;> rfl
def Lies (g : Nat) (T : TypeId) (x : Array Value) (W : World) : Prop := W.heap[g]? = some (.cells x T (0, 0))
theorem Lies.below {g : Nat} {T : TypeId} {x : Array Value} {W W' : World} (h : Lies g T x W) (b : Below W.heap.size W W') : Lies g T x W' := belowBlk b (Array.getElem?_eq_some_iff.1 h).1 h
theorem Lies.get {g : Nat} {x : Array Value} {W : World} (h : Lies g 25 x W) (hs : x.size = 4) : (loadVar 25 ⟨g, 0, none⟩).run Tryz.prog W = .ok (.agg x) W := StT.get st_graph hs h
theorem Lies.new (x : Array Value) (T : TypeId) (w : World) : Lies w.heap.size T x (w.alloc (.cells x T)) := heap_alloc_new w _
structure LQ2 (w W : World) (g o : GraphD) (x y : Array Value) : Prop where
  b1 : Lies w.heap.size 25 x W
  b2 : Lies (w.heap.size + 1) 25 y W
  gx : GrRd W g x
  ox : GrRd W o y
  b : Below w.heap.size w W
section
variable {w W W' : World} {g o : GraphD} {x y : Array Value}
theorem LQ2.below (h : LQ2 w W g o x y) (k : Below W.heap.size W W') : LQ2 w W' g o x y := ⟨h.b1.below k, h.b2.below k, h.gx.below k, h.ox.below k, below_trans h.b k⟩
theorem LQ2.lg (h : LQ2 w W g o x y) : (loadVar 25 ⟨w.heap.size, 0, none⟩).run Tryz.prog W = .ok (.agg x) W := h.b1.get (ef_graph.size h.gx)
theorem LQ2.lo (h : LQ2 w W g o x y) : (loadVar 25 ⟨w.heap.size + 1, 0, none⟩).run Tryz.prog W = .ok (.agg y) W := h.b2.get (ef_graph.size h.ox)
theorem LQ2.start (h1 : GrRd w g x) (h2 : GrRd w o y) : LQ2 w ((w.alloc (.cells x 25)).alloc (.cells y 25)) g o x y := by
  have b1 := below_new (w := w) (.cells x 25)
  have b2 := below_new (w := w.alloc (.cells x 25)) (.cells y 25)
  have hb := below_trans b1 b2
  have e2 := Lies.new y 25 (w.alloc (.cells x 25))
  rw [World.size_alloc] at e2
  exact ⟨(Lies.new x _ w).below b2, e2, h1.below hb, h2.below hb, hb⟩
end
theorem PsOk.tot {l : List PropD} (h : PsOk l) : ∀ x ∈ l, totV x.val ≤ 1099511627776 := fun x hx => by have := (h.2 x hx).2; omega
theorem GOk.tot {g : GraphD} (h : GOk g) : GTot g := ⟨fun n hn => (h.2.2.1 n hn).2.2.tot, fun r hr => (h.2.2.2 r hr).2.tot⟩
end Go.Proofs.YtihfnegakcghiaaGreatDoor
namespace Go.Proofs.YtihfnegakcghiaaGreatDoor
open Go.RowKit
theorem eql_bytesS2 (a b : List UInt8) (W : World) : (binOp .eql 9 (.string (strB a)) (.string (strB b))).run Tryz.prog W = .ok (.bool (decide (a = b))) W := by
  have e : (strB a = strB b) ↔ a = b := strB_inj
  by_cases h : a = b
  · subst h; simp [go_sem]
  · rw [decide_eq_false h]
    simp [go_sem, strB_toList, h]
theorem eqfP_any {w : World} {p p2 : Option Addr} {c c2 : Nat} {l m} (h : GRd PRd 7 w p c l) (h2 : GRd PRd 7 w p2 c2 m)
    (hone : ∀ j (h1 : j < l.length) (h2 : j < m.length) W x y, Below w.heap.size w W → PRd W l[j] x → PRd W m[j] y → Calls Tryz.prog 183 #[.agg x, .agg y] W fun e w' => e = .returned (.bool (sameP l[j] m[j])) ∧ Below W.heap.size W w') :
    Calls Tryz.prog 182 #[.slice p l.length c, .slice p2 m.length c2, .func (.func 183) #[] #[]] w fun e w' => e = .returned (.bool (all2 sameP l m)) ∧ Below w.heap.size w w' := by
  have z1 : (l.length : Int) ≤ 140737488355328 := by have := h.1.2.1; omega
  have z2 : (m.length : Int) ≤ 140737488355328 := by have := h2.1.2.1; omega
  have H := Lib.hid h
  have H2 := Lib.hid h2
  have HO := Lib.hid hone
  clear h h2 hone
  by_cases hlen : l.length = m.length
  · rw [hlen]
    rw [hlen] at z1
    have HLEN := Lib.hid hlen
    clear hlen
    go_enter Tryz.func182, Tryz.ntmps182
    go_wp2
    go_loopw [17] (fun i W => ∃ j : Nat, j ≤ m.length ∧ i = .int .i64 (j : Int) ∧ Hid ((∀ i (h1 : i < l.length) (h2 : i < m.length), i < j → sameP l[i] m[i] = true) ∧ Below w.heap.size w W)) (fun i _ => m.length - (intOf i).toNat)
    case atStart => exact ⟨0, Nat.zero_le _, rfl, Lib.hid ⟨fun i _ _ h => by omega, Below.refl _ _⟩⟩
    case round =>
      obtain ⟨j, hj, rfl, HI⟩ := hrel
      by_cases hlt : j < m.length
      · have hlt1 : j + 1 ≤ m.length := hlt
        have hltl : j < l.length := by rw [HLEN.out]; exact hlt
        obtain ⟨b, of, cs, rfl, hs, hc, hv⟩ := H.out.get hltl
        obtain ⟨b2, of2, ds, rfl, hs2, hc2, hv2⟩ := H2.out.get hlt
        have hb := below_new (w := wr) (.cells cs 47)
        have hb2 := below_new (w := wr.alloc (.cells cs 47)) (.cells ds 47)
        have hbb : Below w.heap.size w (wr.alloc (.cells cs 47)) := below_trans HI.out.2 hb
        have hbc : Below w.heap.size w ((wr.alloc (.cells cs 47)).alloc (.cells ds 47)) := below_trans hbb hb2
        have hx8 := belowBlk hb2 (by simp) (heap_alloc_new wr (.cells cs 47))
        have hx9 := heap_alloc_new (wr.alloc (.cells cs 47)) (.cells ds 47)
        have HL1 := Lib.hid (StT.load st_prop hs (fun i u hu => belowCell HI.out.2 (ltOf (hc i u hu)) (hc i u hu)) (W := wr))
        have HS1 := Lib.hid (StT.fresh st_prop hs (ef_prop.ones hv) (W := wr))
        have HL2 := Lib.hid (StT.load st_prop hs2 (fun i u hu => belowCell hbb (ltOf (hc2 i u hu)) (hc2 i u hu)) (W := wr.alloc (.cells cs 47)))
        have hs22 := StT.fresh st_prop hs2 (ef_prop.ones hv2) (W := wr.alloc (.cells cs 47))
        have hl3 := StT.get st_prop hs hx8
        have hl4 := StT.get st_prop hs2 hx9
        have hcall := HO.out j hltl hlt _ _ _ hbc (hv.below hbc) (hv2.below hbc)
        simp only [World.size_alloc] at hs22 hl3 hl4
        have hno := all2_no (f := sameP) hltl hlt
        have hye : sameP l[j] m[j] = true → ∀ i (h1 : i < l.length) (h2 : i < m.length), i < j + 1 → sameP l[i] m[i] = true := fun he i h1 h2 h3 => by
          rcases Nat.lt_or_ge i j with h4 | h4
          · exact HI.out.1 i h1 h2 h4
          · have : i = j := by omega
            subst this; exact he
        generalize sameP l[j] m[j] = r at *
        have HS2 := Lib.hid hs22
        have HL3 := Lib.hid hl3
        have HL4 := Lib.hid hl4
        have HC := Lib.hid hcall
        have HX := Lib.hid (And.intro hno (And.intro hye hbc))
        clear hb hb2 hbb hbc hx8 hx9 hs22 hl3 hl4 hcall hno hye hs hc hv hs2 hc2 hv2
        cases r
        all_goals
          go_wp2_with (first
            | ((with_reducible apply op_load); exact HL1.out; exact rfl; clear HL1)
            | ((with_reducible apply op_store); exact HS1.out _ rfl; exact rfl; exact rfl; clear HS1)
            | ((with_reducible apply op_load); exact HL2.out; exact rfl; clear HL2)
            | ((with_reducible apply op_store); exact HS2.out _ rfl; exact rfl; exact rfl; clear HS2)
            | ((with_reducible apply op_load); exact HL3.out; exact rfl; clear HL3)
            | ((with_reducible apply op_load); exact HL4.out; exact rfl; clear HL4)
            | (go_at_call 183; refine HC.out.mono ?_; rintro e W2 ⟨rfl, hbw⟩; have HF := Lib.hid (below_trans HX.out.2.2 hbw); clear hbw HC))
        · go_ret
          exact ⟨by rw [HX.out.1 (by simp)]; rfl, HF.out⟩
        · go_roundw
          case rel => exact ⟨j + 1, hlt1, by go_num, Lib.hid ⟨HX.out.2.1 (by simp), HF.out⟩⟩
          case measure => simp [intOf]; omega
      · obtain rfl : j = m.length := by omega
        have HF := Lib.hid (And.intro (all2_of (f := sameP) HLEN.out fun i h1 h2 => HI.out.1 i h1 h2 h2) HI.out.2)
        clear HI
        go_wp2
        go_ret
        exact ⟨by rw [HF.out.1]; rfl, HF.out.2⟩
  · have hli : ¬ (l.length : Int) = (m.length : Int) := by omega
    have hlb : ((l.length : Int) != (m.length : Int)) = true := by rw [bne_iff_ne]; exact hli
    clear hli
    go_enter Tryz.func182, Tryz.ntmps182
    go_wp2
    go_ret
    exact ⟨by rw [all2_ne hlen]; rfl, Below.refl _ _⟩
theorem sameP_any {w : World} (hE : Env w) {a b : PropD} {x y : Array Value} (ha : PRd w a x) (hb : PRd w b y) (ht : totV a.val ≤ 1100000) (ht2 : totV b.val ≤ 1100000) : Calls Tryz.prog 183 #[.agg x, .agg y] w fun e w' => e = .returned (.bool (sameP a b)) ∧ Below w.heap.size w w' := by
  have hxs := ef_prop.size ha
  have hys := ef_prop.size hb
  have hb1 := below_new (w := w) (.cells x 47)
  have hb2 := below_new (w := w.alloc (.cells x 47)) (.cells y 47)
  have hbc : Below w.heap.size w ((w.alloc (.cells x 47)).alloc (.cells y 47)) := below_trans hb1 hb2
  have hx8 := belowBlk hb2 (by simp) (heap_alloc_new w (.cells x 47))
  have hx9 := heap_alloc_new (w.alloc (.cells x 47)) (.cells y 47)
  obtain ⟨xv, ex, hkx, hvx⟩ := ha
  obtain ⟨yv, ey, hky, hvy⟩ := hb
  have k0 : x[0]? = some (.string (strB a.key)) := by rw [ex, Array.getElem?_append_left (by simp)]; rfl
  have l0 : y[0]? = some (.string (strB b.key)) := by rw [ey, Array.getElem?_append_left (by simp)]; rfl
  have k1 : ∀ (i : Nat) (u : Value), xv[i]? = some u → x[1 + i]? = some u := fun i u hu => by rw [ex, Array.getElem?_append_right (by simp)]; simpa using hu
  have l1 : ∀ (i : Nat) (u : Value), yv[i]? = some u → y[1 + i]? = some u := fun i u hu => by rw [ey, Array.getElem?_append_right (by simp)]; simpa using hu
  have p0 := cellOf (o := 0) hx8 k0
  have q0 := cellOf (o := 0) hx9 l0
  have hlx := StT.load (P := Tryz.prog) (g := w.heap.size) (o := 1) st_val (ef_val.size hvx) fun i u hu => cellOf (o := 1 + i) hx8 (k1 i u hu)
  have hly := StT.load (P := Tryz.prog) (g := (w.alloc (.cells x 47)).heap.size) (o := 1) st_val (ef_val.size hvy) fun i u hu => cellOf (o := 1 + i) hx9 (l1 i u hu)
  have hcall := same_any (hE.b hbc) (hvx.below hbc) (hvy.below hbc) (by omega)
  simp only [World.size_alloc] at q0 hly
  have hes := eql_bytesS2 a.key b.key
  have hsp : sameP a b = (decide (a.key = b.key) && (okV a.val && okV b.val && decide (cmpV a.val b.val = 0))) := rfl
  rw [hsp]
  have HLX := Lib.hid hlx
  have HLY := Lib.hid hly
  have HC := Lib.hid hcall
  have HB := Lib.hid hbc
  clear hsp ht ht2 hE hb1 hb2 hbc hx8 hx9 hlx hly hcall ex ey hvx hvy hkx hky k0 k1 l0 l1 hxs hys
  generalize strB a.key = s1 at *
  generalize strB b.key = s2 at *
  generalize (okV a.val && okV b.val && decide (cmpV a.val b.val = 0)) = r at *
  cases hk : decide (a.key = b.key)
  all_goals
    rw [hk] at hes
    go_enter Tryz.func183, Tryz.ntmps183
    go_wp2_with (first
      | (refine wpList_run rfl (exec_bins rfl rfl rfl (hes _)) ?_)
      | ((with_reducible apply op_loadH); exact HLX.out; exact rfl; exact rfl)
      | ((with_reducible apply op_loadH); exact HLY.out; exact rfl; exact rfl)
      | (go_at_call 184; refine HC.out.mono ?_; rintro e W2 ⟨rfl, hbw⟩; have HF := Lib.hid (below_trans HB.out hbw); clear hbw HC))
    go_ret
    first
      | exact ⟨by simp, HF.out⟩
      | exact ⟨by simp, HB.out⟩
theorem sameProps_any {w : World} (hE : Env w) {p p2 : Option Addr} {c c2 : Nat} {l m : List PropD} (h : GRd PRd 7 w p c l) (h2 : GRd PRd 7 w p2 c2 m) (ht : PsOk l) (ht2 : PsOk m) : Calls Tryz.prog 132 #[.slice p l.length c, .slice p2 m.length c2] w fun e w' => e = .returned (.bool (all2 sameP l m)) ∧ Below w.heap.size w w' := by
  have HC := Lib.hid (eqfP_any h h2 (fun j h1 h3 W x y hB hx hy => sameP_any (hE.b hB) hx hy (ht.2 _ (List.getElem_mem h1)).2 (ht2.2 _ (List.getElem_mem h3)).2))
  clear hE h h2 ht ht2
  generalize all2 sameP l m = r at *
  go_enter Tryz.func132, Tryz.ntmps132
  go_wp2_with (go_at_call 182; refine HC.out.mono ?_; rintro e W2 ⟨rfl, hbw⟩; have HF := Lib.hid hbw; clear hbw HC)
  go_ret
  exact ⟨rfl, HF.out⟩
theorem sameN_any {w : World} (hE : Env w) {a b : NodeD} {x y : Array Value} (ha : NRd w a x) (hb : NRd w b y) (ht : NOk a) (ht2 : NOk b) : Calls Tryz.prog 80 #[.agg x, .agg y] w fun e w' => e = .returned (.bool (sameN a b)) ∧ Below w.heap.size w w' := by
  obtain ⟨pl, cl, pp, cp, rfl, hl, hp⟩ := ha
  obtain ⟨ql, dl, qp, dp, rfl, hl2, hp2⟩ := hb
  have hb1 := below_new (w := w) (.cells #[.int .i64 a.id, .slice pl a.labels.length cl, .slice pp a.props.length cp] 45)
  have hb2 := below_new (w := w.alloc (.cells #[.int .i64 a.id, .slice pl a.labels.length cl, .slice pp a.props.length cp] 45)) (.cells #[.int .i64 b.id, .slice ql b.labels.length dl, .slice qp b.props.length dp] 45)
  have hbc : Below w.heap.size w ((w.alloc (.cells #[.int .i64 a.id, .slice pl a.labels.length cl, .slice pp a.props.length cp] 45)).alloc (.cells #[.int .i64 b.id, .slice ql b.labels.length dl, .slice qp b.props.length dp] 45)) := below_trans hb1 hb2
  have hx8 := belowBlk hb2 (by simp) (heap_alloc_new w (.cells #[.int .i64 a.id, .slice pl a.labels.length cl, .slice pp a.props.length cp] 45))
  have hx9 := heap_alloc_new (w.alloc (.cells #[.int .i64 a.id, .slice pl a.labels.length cl, .slice pp a.props.length cp] 45)) (.cells #[.int .i64 b.id, .slice ql b.labels.length dl, .slice qp b.props.length dp] 45)
  have hke := fun W (g : Below w.heap.size w W) => eqkeys_any (hl.below g) (hl2.below g)
  have hpe := fun W (g : Below w.heap.size w W) => sameProps_any (hE.b g) (hp.below (fun h => h.below g) g) (hp2.below (fun h => h.below g) g) ht.2.2 ht2.2.2
  have hsp : sameN a b = (decide (a.id = b.id) && decide (a.labels = b.labels) && all2 sameP a.props b.props) := rfl
  rw [hsp]
  have HKE := Lib.hid hke
  have HPE := Lib.hid hpe
  have hxx := fun W (g : Below ((w.alloc (.cells #[.int .i64 a.id, .slice pl a.labels.length cl, .slice pp a.props.length cp] 45)).alloc (.cells #[.int .i64 b.id, .slice ql b.labels.length dl, .slice qp b.props.length dp] 45)).heap.size ((w.alloc (.cells #[.int .i64 a.id, .slice pl a.labels.length cl, .slice pp a.props.length cp] 45)).alloc (.cells #[.int .i64 b.id, .slice ql b.labels.length dl, .slice qp b.props.length dp] 45)) W) => And.intro (belowBlk g (by simp; omega) hx8) (show W.heap[w.heap.size + 1]? = some (.cells #[.int .i64 b.id, .slice ql b.labels.length dl, .slice qp b.props.length dp] 45 (0, 0)) from by have h := belowBlk g (by simp) hx9; simp only [World.size_alloc] at h; exact h)
  have p0 := cellOf (o := 0) hx8 rfl
  have q0 := cellOf (o := 0) hx9 rfl
  have p1 := cellOf (o := 1) hx8 rfl
  have q1 := cellOf (o := 1) hx9 rfl
  have p2 := cellOf (o := 2) hx8 rfl
  have q2 := cellOf (o := 2) hx9 rfl
  simp only [World.size_alloc] at q0 q1 q2
  have HX := Lib.hid hxx
  have HB := Lib.hid hbc
  clear hsp ht ht2 hE hb1 hb2 hbc hx8 hx9 hke hpe hxx hl hl2 hp hp2
  generalize decide (a.labels = b.labels) = r1 at *
  generalize all2 sameP a.props b.props = r2 at *
  cases hk : decide (a.id = b.id) <;> cases r1
  all_goals
    have hki : ((a.id == b.id) : Bool) = decide (a.id = b.id) := rfl
    rw [hk] at hki
    go_enter Tryz.func80, Tryz.ntmps80
    go_wp2_with (first
      | (go_at_call 131; refine (HKE.out _ HB.out).mono ?_; rintro e W2 ⟨rfl, hbw⟩; have HF1 := Lib.hid (And.intro hbw (below_trans HB.out hbw)); have p21 := cellOf (o := 2) (HX.out _ hbw).1 rfl; have q21 := cellOf (o := 2) (HX.out _ hbw).2 rfl; clear hbw HKE)
      | (go_at_call 132; refine (HPE.out _ HF1.out.2).mono ?_; rintro e W3 ⟨rfl, hbw⟩; have HF := Lib.hid (below_trans HF1.out.2 hbw); clear hbw HPE))
    go_ret
    first
      | exact ⟨by simp, HF.out⟩
      | exact ⟨by simp, HF1.out.2⟩
      | exact ⟨by simp, HB.out⟩
theorem sameR_any {w : World} (hE : Env w) {a b : RelD} {x y : Array Value} (ha : RRd w a x) (hb : RRd w b y) (ht : ROk a) (ht2 : ROk b) : Calls Tryz.prog 82 #[.agg x, .agg y] w fun e w' => e = .returned (.bool (sameR a b)) ∧ Below w.heap.size w w' := by
  obtain ⟨pp, cp, rfl, hty, hp⟩ := ha
  obtain ⟨qp, dp, rfl, hty2, hp2⟩ := hb
  have hb1 := below_new (w := w) (.cells #[.int .i64 a.id, .int .i64 a.src, .int .i64 a.dst, .string (strB a.type), .slice pp a.props.length cp] 49)
  have hb2 := below_new (w := w.alloc (.cells #[.int .i64 a.id, .int .i64 a.src, .int .i64 a.dst, .string (strB a.type), .slice pp a.props.length cp] 49)) (.cells #[.int .i64 b.id, .int .i64 b.src, .int .i64 b.dst, .string (strB b.type), .slice qp b.props.length dp] 49)
  have hbc : Below w.heap.size w ((w.alloc (.cells #[.int .i64 a.id, .int .i64 a.src, .int .i64 a.dst, .string (strB a.type), .slice pp a.props.length cp] 49)).alloc (.cells #[.int .i64 b.id, .int .i64 b.src, .int .i64 b.dst, .string (strB b.type), .slice qp b.props.length dp] 49)) := below_trans hb1 hb2
  have hx8 := belowBlk hb2 (by simp) (heap_alloc_new w (.cells #[.int .i64 a.id, .int .i64 a.src, .int .i64 a.dst, .string (strB a.type), .slice pp a.props.length cp] 49))
  have hx9 := heap_alloc_new (w.alloc (.cells #[.int .i64 a.id, .int .i64 a.src, .int .i64 a.dst, .string (strB a.type), .slice pp a.props.length cp] 49)) (.cells #[.int .i64 b.id, .int .i64 b.src, .int .i64 b.dst, .string (strB b.type), .slice qp b.props.length dp] 49)
  have hpe := sameProps_any (hE.b hbc) (hp.below (fun h => h.below hbc) hbc) (hp2.below (fun h => h.below hbc) hbc) ht.2 ht2.2
  have hes : ((strB a.type).toList == (strB b.type).toList) = decide (a.type = b.type) := by rw [strB_toList, strB_toList, Bool.eq_iff_iff]; simp
  have hsp : sameR a b = (decide (a.id = b.id) && decide (a.src = b.src) && decide (a.dst = b.dst) && decide (a.type = b.type) && all2 sameP a.props b.props) := rfl
  rw [hsp]
  have HPE := Lib.hid hpe
  have p0 := cellOf (o := 0) hx8 rfl
  have q0 := cellOf (o := 0) hx9 rfl
  have p1 := cellOf (o := 1) hx8 rfl
  have q1 := cellOf (o := 1) hx9 rfl
  have p2 := cellOf (o := 2) hx8 rfl
  have q2 := cellOf (o := 2) hx9 rfl
  have p3 := cellOf (o := 3) hx8 rfl
  have q3 := cellOf (o := 3) hx9 rfl
  have p4 := cellOf (o := 4) hx8 rfl
  have q4 := cellOf (o := 4) hx9 rfl
  simp only [World.size_alloc] at q0 q1 q2 q3 q4
  have HB := Lib.hid hbc
  clear hsp ht ht2 hE hb1 hb2 hbc hx8 hx9 hpe hp hp2 hty hty2
  generalize all2 sameP a.props b.props = r2 at *
  generalize strB a.type = s1 at *
  generalize strB b.type = s2 at *
  cases hk : decide (a.id = b.id) <;> cases hk1 : decide (a.src = b.src) <;> cases hk2 : decide (a.dst = b.dst) <;> cases hk3 : decide (a.type = b.type)
  all_goals
    have hki : ((a.id == b.id) : Bool) = decide (a.id = b.id) := rfl
    have hki1 : ((a.src == b.src) : Bool) = decide (a.src = b.src) := rfl
    have hki2 : ((a.dst == b.dst) : Bool) = decide (a.dst = b.dst) := rfl
    rw [hk] at hki
    rw [hk1] at hki1
    rw [hk2] at hki2
    rw [hk3] at hes
    go_enter Tryz.func82, Tryz.ntmps82
    go_wp2_with (first
      | (go_at_call 132; refine HPE.out.mono ?_; rintro e W3 ⟨rfl, hbw⟩; have HF := Lib.hid (below_trans HB.out hbw); clear hbw HPE))
    go_ret
    first
      | exact ⟨by simp, HF.out⟩
      | exact ⟨by simp, HB.out⟩
theorem eqfN_any {w : World} {p p2 : Option Addr} {c c2 : Nat} {l m} (h : GRd NRd 3 w p c l) (h2 : GRd NRd 3 w p2 c2 m)
    (hone : ∀ j (h1 : j < l.length) (h2 : j < m.length) W x y, Below w.heap.size w W → NRd W l[j] x → NRd W m[j] y → Calls Tryz.prog 80 #[.agg x, .agg y] W fun e w' => e = .returned (.bool (sameN l[j] m[j])) ∧ Below W.heap.size W w') :
    Calls Tryz.prog 79 #[.slice p l.length c, .slice p2 m.length c2, .func (.func 80) #[] #[]] w fun e w' => e = .returned (.bool (all2 sameN l m)) ∧ Below w.heap.size w w' := by
  have z1 : (l.length : Int) ≤ 140737488355328 := by have := h.1.2.1; omega
  have z2 : (m.length : Int) ≤ 140737488355328 := by have := h2.1.2.1; omega
  have H := Lib.hid h
  have H2 := Lib.hid h2
  have HO := Lib.hid hone
  clear h h2 hone
  by_cases hlen : l.length = m.length
  · rw [hlen]
    rw [hlen] at z1
    have HLEN := Lib.hid hlen
    clear hlen
    go_enter Tryz.func79, Tryz.ntmps79
    go_wp2
    go_loopw [17] (fun i W => ∃ j : Nat, j ≤ m.length ∧ i = .int .i64 (j : Int) ∧ Hid ((∀ i (h1 : i < l.length) (h2 : i < m.length), i < j → sameN l[i] m[i] = true) ∧ Below w.heap.size w W)) (fun i _ => m.length - (intOf i).toNat)
    case atStart => exact ⟨0, Nat.zero_le _, rfl, Lib.hid ⟨fun i _ _ h => by omega, Below.refl _ _⟩⟩
    case round =>
      obtain ⟨j, hj, rfl, HI⟩ := hrel
      by_cases hlt : j < m.length
      · have hlt1 : j + 1 ≤ m.length := hlt
        have hltl : j < l.length := by rw [HLEN.out]; exact hlt
        obtain ⟨b, of, cs, rfl, hs, hc, hv⟩ := H.out.get hltl
        obtain ⟨b2, of2, ds, rfl, hs2, hc2, hv2⟩ := H2.out.get hlt
        have hb := below_new (w := wr) (.cells cs 45)
        have hb2 := below_new (w := wr.alloc (.cells cs 45)) (.cells ds 45)
        have hbb : Below w.heap.size w (wr.alloc (.cells cs 45)) := below_trans HI.out.2 hb
        have hbc : Below w.heap.size w ((wr.alloc (.cells cs 45)).alloc (.cells ds 45)) := below_trans hbb hb2
        have hx8 := belowBlk hb2 (by simp) (heap_alloc_new wr (.cells cs 45))
        have hx9 := heap_alloc_new (wr.alloc (.cells cs 45)) (.cells ds 45)
        have HL1 := Lib.hid (StT.load st_node hs (fun i u hu => belowCell HI.out.2 (ltOf (hc i u hu)) (hc i u hu)) (W := wr))
        have HS1 := Lib.hid (StT.fresh st_node hs (ef_node.ones hv) (W := wr))
        have HL2 := Lib.hid (StT.load st_node hs2 (fun i u hu => belowCell hbb (ltOf (hc2 i u hu)) (hc2 i u hu)) (W := wr.alloc (.cells cs 45)))
        have hs22 := StT.fresh st_node hs2 (ef_node.ones hv2) (W := wr.alloc (.cells cs 45))
        have hl3 := StT.get st_node hs hx8
        have hl4 := StT.get st_node hs2 hx9
        have hcall := HO.out j hltl hlt _ _ _ hbc (hv.below hbc) (hv2.below hbc)
        simp only [World.size_alloc] at hs22 hl3 hl4
        have hno := all2_no (f := sameN) hltl hlt
        have hye : sameN l[j] m[j] = true → ∀ i (h1 : i < l.length) (h2 : i < m.length), i < j + 1 → sameN l[i] m[i] = true := fun he i h1 h2 h3 => by
          rcases Nat.lt_or_ge i j with h4 | h4
          · exact HI.out.1 i h1 h2 h4
          · have : i = j := by omega
            subst this; exact he
        generalize sameN l[j] m[j] = r at *
        have HS2 := Lib.hid hs22
        have HL3 := Lib.hid hl3
        have HL4 := Lib.hid hl4
        have HC := Lib.hid hcall
        have HX := Lib.hid (And.intro hno (And.intro hye hbc))
        clear hb hb2 hbb hbc hx8 hx9 hs22 hl3 hl4 hcall hno hye hs hc hv hs2 hc2 hv2
        cases r
        all_goals
          go_wp2_with (first
            | ((with_reducible apply op_load); exact HL1.out; exact rfl; clear HL1)
            | ((with_reducible apply op_store); exact HS1.out _ rfl; exact rfl; exact rfl; clear HS1)
            | ((with_reducible apply op_load); exact HL2.out; exact rfl; clear HL2)
            | ((with_reducible apply op_store); exact HS2.out _ rfl; exact rfl; exact rfl; clear HS2)
            | ((with_reducible apply op_load); exact HL3.out; exact rfl; clear HL3)
            | ((with_reducible apply op_load); exact HL4.out; exact rfl; clear HL4)
            | (go_at_call 80; refine HC.out.mono ?_; rintro e W2 ⟨rfl, hbw⟩; have HF := Lib.hid (below_trans HX.out.2.2 hbw); clear hbw HC))
        · go_ret
          exact ⟨by rw [HX.out.1 (by simp)]; rfl, HF.out⟩
        · go_roundw
          case rel => exact ⟨j + 1, hlt1, by go_num, Lib.hid ⟨HX.out.2.1 (by simp), HF.out⟩⟩
          case measure => simp [intOf]; omega
      · obtain rfl : j = m.length := by omega
        have HF := Lib.hid (And.intro (all2_of (f := sameN) HLEN.out fun i h1 h2 => HI.out.1 i h1 h2 h2) HI.out.2)
        clear HI
        go_wp2
        go_ret
        exact ⟨by rw [HF.out.1]; rfl, HF.out.2⟩
  · have hli : ¬ (l.length : Int) = (m.length : Int) := by omega
    have hlb : ((l.length : Int) != (m.length : Int)) = true := by rw [bne_iff_ne]; exact hli
    clear hli
    go_enter Tryz.func79, Tryz.ntmps79
    go_wp2
    go_ret
    exact ⟨by rw [all2_ne hlen]; rfl, Below.refl _ _⟩
theorem eqfR_any {w : World} {p p2 : Option Addr} {c c2 : Nat} {l m} (h : GRd RRd 5 w p c l) (h2 : GRd RRd 5 w p2 c2 m)
    (hone : ∀ j (h1 : j < l.length) (h2 : j < m.length) W x y, Below w.heap.size w W → RRd W l[j] x → RRd W m[j] y → Calls Tryz.prog 82 #[.agg x, .agg y] W fun e w' => e = .returned (.bool (sameR l[j] m[j])) ∧ Below W.heap.size W w') :
    Calls Tryz.prog 81 #[.slice p l.length c, .slice p2 m.length c2, .func (.func 82) #[] #[]] w fun e w' => e = .returned (.bool (all2 sameR l m)) ∧ Below w.heap.size w w' := by
  have z1 : (l.length : Int) ≤ 140737488355328 := by have := h.1.2.1; omega
  have z2 : (m.length : Int) ≤ 140737488355328 := by have := h2.1.2.1; omega
  have H := Lib.hid h
  have H2 := Lib.hid h2
  have HO := Lib.hid hone
  clear h h2 hone
  by_cases hlen : l.length = m.length
  · rw [hlen]
    rw [hlen] at z1
    have HLEN := Lib.hid hlen
    clear hlen
    go_enter Tryz.func81, Tryz.ntmps81
    go_wp2
    go_loopw [17] (fun i W => ∃ j : Nat, j ≤ m.length ∧ i = .int .i64 (j : Int) ∧ Hid ((∀ i (h1 : i < l.length) (h2 : i < m.length), i < j → sameR l[i] m[i] = true) ∧ Below w.heap.size w W)) (fun i _ => m.length - (intOf i).toNat)
    case atStart => exact ⟨0, Nat.zero_le _, rfl, Lib.hid ⟨fun i _ _ h => by omega, Below.refl _ _⟩⟩
    case round =>
      obtain ⟨j, hj, rfl, HI⟩ := hrel
      by_cases hlt : j < m.length
      · have hlt1 : j + 1 ≤ m.length := hlt
        have hltl : j < l.length := by rw [HLEN.out]; exact hlt
        obtain ⟨b, of, cs, rfl, hs, hc, hv⟩ := H.out.get hltl
        obtain ⟨b2, of2, ds, rfl, hs2, hc2, hv2⟩ := H2.out.get hlt
        have hb := below_new (w := wr) (.cells cs 49)
        have hb2 := below_new (w := wr.alloc (.cells cs 49)) (.cells ds 49)
        have hbb : Below w.heap.size w (wr.alloc (.cells cs 49)) := below_trans HI.out.2 hb
        have hbc : Below w.heap.size w ((wr.alloc (.cells cs 49)).alloc (.cells ds 49)) := below_trans hbb hb2
        have hx8 := belowBlk hb2 (by simp) (heap_alloc_new wr (.cells cs 49))
        have hx9 := heap_alloc_new (wr.alloc (.cells cs 49)) (.cells ds 49)
        have HL1 := Lib.hid (StT.load st_rel hs (fun i u hu => belowCell HI.out.2 (ltOf (hc i u hu)) (hc i u hu)) (W := wr))
        have HS1 := Lib.hid (StT.fresh st_rel hs (ef_rel.ones hv) (W := wr))
        have HL2 := Lib.hid (StT.load st_rel hs2 (fun i u hu => belowCell hbb (ltOf (hc2 i u hu)) (hc2 i u hu)) (W := wr.alloc (.cells cs 49)))
        have hs22 := StT.fresh st_rel hs2 (ef_rel.ones hv2) (W := wr.alloc (.cells cs 49))
        have hl3 := StT.get st_rel hs hx8
        have hl4 := StT.get st_rel hs2 hx9
        have hcall := HO.out j hltl hlt _ _ _ hbc (hv.below hbc) (hv2.below hbc)
        simp only [World.size_alloc] at hs22 hl3 hl4
        have hno := all2_no (f := sameR) hltl hlt
        have hye : sameR l[j] m[j] = true → ∀ i (h1 : i < l.length) (h2 : i < m.length), i < j + 1 → sameR l[i] m[i] = true := fun he i h1 h2 h3 => by
          rcases Nat.lt_or_ge i j with h4 | h4
          · exact HI.out.1 i h1 h2 h4
          · have : i = j := by omega
            subst this; exact he
        generalize sameR l[j] m[j] = r at *
        have HS2 := Lib.hid hs22
        have HL3 := Lib.hid hl3
        have HL4 := Lib.hid hl4
        have HC := Lib.hid hcall
        have HX := Lib.hid (And.intro hno (And.intro hye hbc))
        clear hb hb2 hbb hbc hx8 hx9 hs22 hl3 hl4 hcall hno hye hs hc hv hs2 hc2 hv2
        cases r
        all_goals
          go_wp2_with (first
            | ((with_reducible apply op_load); exact HL1.out; exact rfl; clear HL1)
            | ((with_reducible apply op_store); exact HS1.out _ rfl; exact rfl; exact rfl; clear HS1)
            | ((with_reducible apply op_load); exact HL2.out; exact rfl; clear HL2)
            | ((with_reducible apply op_store); exact HS2.out _ rfl; exact rfl; exact rfl; clear HS2)
            | ((with_reducible apply op_load); exact HL3.out; exact rfl; clear HL3)
            | ((with_reducible apply op_load); exact HL4.out; exact rfl; clear HL4)
            | (go_at_call 82; refine HC.out.mono ?_; rintro e W2 ⟨rfl, hbw⟩; have HF := Lib.hid (below_trans HX.out.2.2 hbw); clear hbw HC))
        · go_ret
          exact ⟨by rw [HX.out.1 (by simp)]; rfl, HF.out⟩
        · go_roundw
          case rel => exact ⟨j + 1, hlt1, by go_num, Lib.hid ⟨HX.out.2.1 (by simp), HF.out⟩⟩
          case measure => simp [intOf]; omega
      · obtain rfl : j = m.length := by omega
        have HF := Lib.hid (And.intro (all2_of (f := sameR) HLEN.out fun i h1 h2 => HI.out.1 i h1 h2 h2) HI.out.2)
        clear HI
        go_wp2
        go_ret
        exact ⟨by rw [HF.out.1]; rfl, HF.out.2⟩
  · have hli : ¬ (l.length : Int) = (m.length : Int) := by omega
    have hlb : ((l.length : Int) != (m.length : Int)) = true := by rw [bne_iff_ne]; exact hli
    clear hli
    go_enter Tryz.func81, Tryz.ntmps81
    go_wp2
    go_ret
    exact ⟨by rw [all2_ne hlen]; rfl, Below.refl _ _⟩
theorem sameGO_any {w : World} (hE : Env w) {a b : GraphD} {x y : Array Value} (ha : GrRd w a x) (hb : GrRd w b y) (ht : GOk a) (ht2 : GOk b) : Calls Tryz.prog 25 #[.agg x, .agg y] w fun e w' => e = .returned (.bool (sameG a b)) ∧ Below w.heap.size w w' := by
  obtain ⟨pn, cn, pr, cr, rfl, hn, hr⟩ := ha
  obtain ⟨qn, dn, qr, dr, rfl, hn2, hr2⟩ := hb
  have hb1 := below_new (w := w) (.cells #[.slice pn a.nodes.length cn, .slice pr a.rels.length cr, .int .i64 a.nextNode, .int .i64 a.nextRel] 25)
  have hb2 := below_new (w := w.alloc (.cells #[.slice pn a.nodes.length cn, .slice pr a.rels.length cr, .int .i64 a.nextNode, .int .i64 a.nextRel] 25)) (.cells #[.slice qn b.nodes.length dn, .slice qr b.rels.length dr, .int .i64 b.nextNode, .int .i64 b.nextRel] 25)
  have hbc : Below w.heap.size w ((w.alloc (.cells #[.slice pn a.nodes.length cn, .slice pr a.rels.length cr, .int .i64 a.nextNode, .int .i64 a.nextRel] 25)).alloc (.cells #[.slice qn b.nodes.length dn, .slice qr b.rels.length dr, .int .i64 b.nextNode, .int .i64 b.nextRel] 25)) := below_trans hb1 hb2
  have hx8 := belowBlk hb2 (by simp) (heap_alloc_new w (.cells #[.slice pn a.nodes.length cn, .slice pr a.rels.length cr, .int .i64 a.nextNode, .int .i64 a.nextRel] 25))
  have hx9 := heap_alloc_new (w.alloc (.cells #[.slice pn a.nodes.length cn, .slice pr a.rels.length cr, .int .i64 a.nextNode, .int .i64 a.nextRel] 25)) (.cells #[.slice qn b.nodes.length dn, .slice qr b.rels.length dr, .int .i64 b.nextNode, .int .i64 b.nextRel] 25)
  have hne := fun W (g : Below w.heap.size w W) => eqfN_any (hn.below (fun h => h.below g) g) (hn2.below (fun h => h.below g) g) (fun j h1 h3 W2 x y hB hx hy => sameN_any (hE.b (below_trans g hB)) hx hy (ht.2.2.1 _ (List.getElem_mem h1)) (ht2.2.2.1 _ (List.getElem_mem h3)))
  have hre := fun W (g : Below w.heap.size w W) => eqfR_any (hr.below (fun h => h.below g) g) (hr2.below (fun h => h.below g) g) (fun j h1 h3 W2 x y hB hx hy => sameR_any (hE.b (below_trans g hB)) hx hy (ht.2.2.2 _ (List.getElem_mem h1)) (ht2.2.2.2 _ (List.getElem_mem h3)))
  have hsp : sameG a b = (decide (a.nextNode = b.nextNode) && decide (a.nextRel = b.nextRel) && all2 sameN a.nodes b.nodes && all2 sameR a.rels b.rels) := rfl
  rw [hsp]
  have HNE := Lib.hid hne
  have HRE := Lib.hid hre
  have hxx := fun W (g : Below ((w.alloc (.cells #[.slice pn a.nodes.length cn, .slice pr a.rels.length cr, .int .i64 a.nextNode, .int .i64 a.nextRel] 25)).alloc (.cells #[.slice qn b.nodes.length dn, .slice qr b.rels.length dr, .int .i64 b.nextNode, .int .i64 b.nextRel] 25)).heap.size ((w.alloc (.cells #[.slice pn a.nodes.length cn, .slice pr a.rels.length cr, .int .i64 a.nextNode, .int .i64 a.nextRel] 25)).alloc (.cells #[.slice qn b.nodes.length dn, .slice qr b.rels.length dr, .int .i64 b.nextNode, .int .i64 b.nextRel] 25)) W) => And.intro (belowBlk g (by simp; omega) hx8) (show W.heap[w.heap.size + 1]? = some (.cells #[.slice qn b.nodes.length dn, .slice qr b.rels.length dr, .int .i64 b.nextNode, .int .i64 b.nextRel] 25 (0, 0)) from by have h := belowBlk g (by simp) hx9; simp only [World.size_alloc] at h; exact h)
  have p0 := cellOf (o := 0) hx8 rfl
  have q0 := cellOf (o := 0) hx9 rfl
  have p1 := cellOf (o := 1) hx8 rfl
  have q1 := cellOf (o := 1) hx9 rfl
  have p2 := cellOf (o := 2) hx8 rfl
  have q2 := cellOf (o := 2) hx9 rfl
  have p3 := cellOf (o := 3) hx8 rfl
  have q3 := cellOf (o := 3) hx9 rfl
  simp only [World.size_alloc] at q0 q1 q2 q3
  have HX := Lib.hid hxx
  have HB := Lib.hid hbc
  clear hsp ht ht2 hE hb1 hb2 hbc hx8 hx9 hne hre hxx hn hn2 hr hr2
  generalize all2 sameN a.nodes b.nodes = r1 at *
  generalize all2 sameR a.rels b.rels = r2 at *
  cases hk : decide (a.nextNode = b.nextNode) <;> cases hk1 : decide (a.nextRel = b.nextRel) <;> cases r1
  all_goals
    have hki : ((a.nextNode == b.nextNode) : Bool) = decide (a.nextNode = b.nextNode) := rfl
    have hki1 : ((a.nextRel == b.nextRel) : Bool) = decide (a.nextRel = b.nextRel) := rfl
    rw [hk] at hki
    rw [hk1] at hki1
    go_enter Tryz.func25, Tryz.ntmps25
    go_wp2_with (first
      | (go_at_call 79; refine (HNE.out _ HB.out).mono ?_; rintro e W2 ⟨rfl, hbw⟩; have HF1 := Lib.hid (And.intro hbw (below_trans HB.out hbw)); have p11 := cellOf (o := 1) (HX.out _ hbw).1 rfl; have q11 := cellOf (o := 1) (HX.out _ hbw).2 rfl; clear hbw HNE)
      | (go_at_call 81; refine (HRE.out _ HF1.out.2).mono ?_; rintro e W3 ⟨rfl, hbw⟩; have HF := Lib.hid (below_trans HF1.out.2 hbw); clear hbw HRE))
    go_ret
    first
      | exact ⟨by simp, HF.out⟩
      | exact ⟨by simp, HF1.out.2⟩
      | exact ⟨by simp, HB.out⟩
end Go.Proofs.YtihfnegakcghiaaGreatDoor
