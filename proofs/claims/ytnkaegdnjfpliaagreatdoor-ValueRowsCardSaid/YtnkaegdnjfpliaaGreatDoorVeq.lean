/- value.equal. Printed by gen_veq.py. -/
import Derived.Test.YtnkaegdnjfpliaaGreatDoorVmake
import Derived.Test.YtnkaegdnjfpliaaGreatDoorVeqp
namespace Go.Proofs.YtnkaegdnjfpliaaGreatDoor
set_option linter.unusedSimpArgs false
set_option linter.unusedVariables false
open Go.RowKit

/-- A value, whole, out of its box; out of a row. -/
theorem get_val {W : World} {g : Nat} {c0 c1 c2 c3 c4 c5 : Value} {fr : Nat × Nat} (h : W.heap[g]? = some (.cells #[c0, c1, c2, c3, c4, c5] 26 fr)) : (loadVar 26 ⟨g, 0, none⟩).run Tryz.prog W = .ok (.agg #[c0, c1, c2, c3, c4, c5]) W :=
  run_loadVar_row W g 26 26 _ fr _ h Tryz.underlying26 rfl (by kernel_rfl)
theorem get_six {W : World} {g o : Nat} {c0 c1 c2 c3 c4 c5 : Value} (h0 : W.cell? ⟨g, o, none⟩ = some c0) (h1 : W.cell? ⟨g, o + 1, none⟩ = some c1) (h2 : W.cell? ⟨g, o + 2, none⟩ = some c2) (h3 : W.cell? ⟨g, o + 3, none⟩ = some c3) (h4 : W.cell? ⟨g, o + 4, none⟩ = some c4) (h5 : W.cell? ⟨g, o + 5, none⟩ = some c5) :
    (loadVar 26 ⟨g, o, none⟩).run Tryz.prog W = .ok (.agg #[c0, c1, c2, c3, c4, c5]) W := by
  have hl := run_loadCells_list (P := Tryz.prog) W ⟨g, o, none⟩ [c0, c1, c2, c3, c4, c5] (fun j v hv => by
    rw [addr_add]
    match j, hv with
    | 0, hv => cases hv; exact h0
    | 1, hv => cases hv; exact h1
    | 2, hv => cases hv; exact h2
    | 3, hv => cases hv; exact h3
    | 4, hv => cases hv; exact h4
    | 5, hv => cases hv; exact h5
    | j + 6, hv => simp at hv)
  unfold loadVar
  simp only [Sem.run_bind, Tryz.isAgg26, Tryz.sizeOf26, Result.andThen_ok, if_true]
  rw [show ([c0, c1, c2, c3, c4, c5] : List Value).length = 6 from rfl] at hl
  simp only [hl, Result.andThen_ok, Sem.run_pure]
theorem ia_vals (g o k n c : Nat) (h : k < n) (W : World) : (Instr.indexAt 24 (.slice (some ⟨g, o, none⟩) n c) (.int .i64 (k : Int))).run Tryz.prog W = .ok (.pointer (some ⟨g, o + k * 6, none⟩)) W := by
  have h1 : 0 ≤ (k : Int) := by omega
  simp [go_sem, h, addr_add]
theorem ia_keys (g o k n c : Nat) (h : k < n) (W : World) : (Instr.indexAt 23 (.slice (some ⟨g, o, none⟩) n c) (.int .i64 (k : Int))).run Tryz.prog W = .ok (.pointer (some ⟨g, o + k, none⟩)) W := by
  have h1 : 0 ≤ (k : Int) := by omega
  simp [go_sem, h, addr_add]

set_option maxRecDepth 100000 in
set_option maxHeartbeats 4000000 in
theorem equal_any {u : List UInt8 → Bool} : ∀ a : V, mayV u a = true → ∀ b : V, mayV u b = true → ∀ {w : World} {x y : Array Value}, VRd w a x → VRd w b y →
    Calls Tryz.prog 65 #[.agg x, .agg y] w fun e w' => e = .returned (.int .i64 (eqV a b)) ∧ Below w.heap.size w w' := by
  refine V.ind fun k b n t ks l ih => ?_
  intro ha v hb w x y hx hy
  obtain ⟨ha1, ha2⟩ := mayV_iff.1 ha
  obtain ⟨hb1, hb2⟩ := mayV_iff.1 hb
  have hcmp : ∀ {W : World} {x y : Array Value}, VRd W (.mk k b n t ks l) x → VRd W v y → Calls Tryz.prog 63 #[.agg x, .agg y] W fun e w' => e = .returned (.int .i64 (cmpV (.mk k b n t ks l) v)) ∧ Below W.heap.size W w' := fun h1 h2 => compare_any _ ha _ hb h1 h2
  have hm := eqV_mk k b n t ks l v
  obtain ⟨pk, ck, pl, cl, rfl, _, hk1, hl1⟩ := hx.open
  obtain ⟨pk', ck', pl', cl', rfl, _, hk2, hl2⟩ := hy.open
  cases v with
  | mk k' b' n' t' ks' l' =>
  simp only [V.kind, V.b, V.n, V.text, V.keys, V.list] at *
  have hT := TwoV.start w #[.int .i64 k, .bool b, .int .i64 n, .string (strB t), .slice pk ks.length ck, .slice pl l.length cl] #[.int .i64 k', .bool b', .int .i64 n', .string (strB t'), .slice pk' ks'.length ck', .slice pl' l'.length cl']
  have hC := hcmp (hx.below hT.2.2) (hy.below hT.2.2)
  have hE := eqkeys_any (hk1.below hT.2.2) (hk2.below hT.2.2)
  have hb0 := hT.2.2
  generalize eqV (.mk k b n t ks l) (.mk k' b' n' t' ks' l') = R at *
  generalize cmpV (.mk k b n t ks l) (.mk k' b' n' t' ks' l') = C at *
  have HI := Lib.hid (fun (a : V) (ha : a ∈ l) (b : V) (hb : b ∈ l') (W : World) (x y : Array Value) (h1 : VRd W a x) (h2 : VRd W b y) => ih a ha (ha2 a ha) b (hb2 b hb) h1 h2)
  have HL := Lib.hid (And.intro hl1 hl2)
  have HM := Lib.hid hm
  have HC := Lib.hid hC
  have HE := Lib.hid hE
  have HB := Lib.hid hb0
  have HT := Lib.hid hT
  have z1 : (l.length : Int) ≤ 140737488355328 := by have := hl1.1.1; have := hl1.1.2.1; omega
  have z2 : (l'.length : Int) ≤ 140737488355328 := by have := hl2.1.1; have := hl2.1.2.1; omega
  clear ih ha hb ha1 ha2 hb1 hb2 hx hy hk1 hk2 hl1 hl2 hm hT hcmp hC hE hb0
  by_cases e0 : k = 0
  · subst e0
    have HR := Lib.hid (HM.out.trans (if_pos (.inl rfl)))
    go_enter Tryz.func65, Tryz.ntmps65
    go_wp2
    go_ret
    exact ⟨ret_int HR.out.symm, HB.out⟩
  have d0 : (k == 0) = false := by simpa using e0
  by_cases e0' : k' = 0
  · subst e0'
    have HR := Lib.hid (HM.out.trans (if_pos (.inr rfl)))
    clear e0
    go_enter Tryz.func65, Tryz.ntmps65
    go_wp2
    go_ret
    exact ⟨ret_int HR.out.symm, HB.out⟩
  have d0' : (k' == 0) = false := by simpa using e0'
  have HM2 := Lib.hid (HM.out.trans (if_neg (by omega)))
  clear HM
  by_cases ekk : k = k'
  case neg =>
    have d1 : (k != k') = true := by simpa using ekk
    have HR := Lib.hid (HM2.out.trans (if_pos ekk))
    clear e0 e0' ekk
    go_enter Tryz.func65, Tryz.ntmps65
    go_wp2
    go_ret
    exact ⟨ret_int HR.out.symm, HB.out⟩
  subst ekk
  have HM3 := Lib.hid (HM2.out.trans (if_neg (fun h => h rfl)))
  clear HM2
  by_cases e45 : k ≠ 4 ∧ k ≠ 5
  · obtain ⟨e4, e5⟩ := e45
    have d4 : (k != 4) = true := by simpa using e4
    have d5 : (k != 5) = true := by simpa using e5
    have HR := Lib.hid (HM3.out.trans (if_pos ⟨e4, e5⟩))
    by_cases eC : C = 0
    · subst eC
      have HR2 := Lib.hid (HR.out.trans (if_pos rfl))
      clear e0 e0' e4 e5
      go_enter Tryz.func65, Tryz.ntmps65
      go_wp2_with (first
        | (go_at_call 63; refine HC.out.mono ?_; rintro e w3 ⟨rfl, hb3⟩; have HB3 := Lib.hid hb3; clear hb3)
        | (go_at_call 66; refine (truth_any _ _).mono ?_; rintro e w' ⟨rfl, rfl⟩))
      go_ret
      exact ⟨ret_int HR2.out.symm, below_trans HB.out HB3.out⟩
    · have dC : (C == 0) = false := by simpa using eC
      have HR2 := Lib.hid (HR.out.trans (if_neg eC))
      clear e0 e0' e4 e5 eC
      go_enter Tryz.func65, Tryz.ntmps65
      go_wp2_with (first
        | (go_at_call 63; refine HC.out.mono ?_; rintro e w3 ⟨rfl, hb3⟩; have HB3 := Lib.hid hb3; clear hb3)
        | (go_at_call 66; refine (truth_any _ _).mono ?_; rintro e w' ⟨rfl, rfl⟩))
      go_ret
      exact ⟨ret_int HR2.out.symm, below_trans HB.out HB3.out⟩
  have HM4 := Lib.hid (HM3.out.trans (if_neg e45))
  clear HM3
  have e45' : k = 4 ∨ k = 5 := by omega
  by_cases ell : l.length = l'.length
  case neg =>
    have HR := Lib.hid (HM4.out.trans (if_pos (.inl ell)))
    have dl : decide (l.length = l'.length) = false := by simpa using ell
    have dl2 : ((l.length : Int) != (l'.length : Int)) = true := by rw [bne_iff_ne]; omega
    clear e0 e0' e45 ell d0 d0'
    rcases e45' with rfl | rfl
    all_goals
      go_enter Tryz.func65, Tryz.ntmps65
      go_wp2
      go_ret
      exact ⟨ret_int HR.out.symm, HB.out⟩
  have dl : decide (l.length = l'.length) = true := by simpa using ell
  have dl2 : ((l.length : Int) != (l'.length : Int)) = false := by rw [bne_eq_false_iff_eq]; omega
  by_cases eks : ks = ks'
  case neg =>
    have HR := Lib.hid (HM4.out.trans (if_pos (.inr eks)))
    have dk : decide (ks = ks') = false := by simpa using eks
    rw [dk] at HE
    clear e0 e0' e45 ell d0 d0' eks dk
    rcases e45' with rfl | rfl
    all_goals
      go_enter Tryz.func65, Tryz.ntmps65
      go_wp2_with (go_at_call 99; refine HE.out.mono ?_; rintro e w3 ⟨rfl, hb3⟩; have HB3 := Lib.hid hb3; clear hb3)
      go_ret
      exact ⟨ret_int HR.out.symm, below_trans HB.out HB3.out⟩
  have dk : decide (ks = ks') = true := by simpa using eks
  rw [dk] at HE
  have HR := Lib.hid (HM4.out.trans (if_neg (by rintro (h | h); exact h ell; exact h eks)))
  have Hell := Lib.hid ell
  clear e0 e0' e45 ell d0 d0' eks dk HM4
  rcases e45' with rfl | rfl
  · go_enter Tryz.func65, Tryz.ntmps65
    go_wp2_with (go_at_call 99; refine HE.out.mono ?_; rintro e w3 ⟨rfl, hb3⟩; have HT3 := Lib.hid (HT.out.below hb3); have p5 := cellOf (o := 5) HT3.out.1 rfl; clear hb3)
    go_loopw [5, 56] (fun o i wr => ∃ (j : Nat) (ov : Int), j ≤ l.length ∧ i = .int .i64 (j : Int) ∧ o = .int .i64 ov ∧ Hid ((ov = 1 ∨ ov = 2) ∧ R = combE ov (eqVs (l.drop j) (l'.drop j)) ∧ TwoV w wr #[.int .i64 4, .bool b, .int .i64 n, .string (strB t), .slice pk ks.length ck, .slice pl l.length cl] #[.int .i64 4, .bool b', .int .i64 n', .string (strB t'), .slice pk' ks'.length ck', .slice pl' l'.length cl'])) (fun _ i _ => l.length - (intOf i).toNat)
    case atStart => exact ⟨0, 2, Nat.zero_le _, rfl, rfl, Lib.hid ⟨.inr rfl, by rw [HR.out, combE_two _ (eqVs_range _ _)]; simp, HT3.out⟩⟩
    case round =>
      obtain ⟨j, ov, hj, rfl, rfl, HJ⟩ := hrel
      by_cases hlt : j < l.length
      · have hlt1 : j + 1 ≤ l.length := hlt
        have hlt2 : j < l'.length := by have := Hell.out; omega
        obtain ⟨hov, hR, hT⟩ := HJ.out
        obtain ⟨g1, o1, pk1, ck1, pl1, cl1, rfl, ⟨a0, a1, a2, a3, a4, a5⟩, hv1⟩ := (HL.out.1.below hT.2.2).at hlt
        obtain ⟨g2, o2, pk2, ck2, pl2, cl2, rfl, ⟨q0, q1, q2, q3, q4, q5⟩, hv2⟩ := (HL.out.2.below hT.2.2).at hlt2
        have hz := @combE_zero ov l[j] l'[j] (l.drop (j + 1)) (l'.drop (j + 1))
        have hone := @combE_one ov l[j] l'[j] (l.drop (j + 1)) (l'.drop (j + 1))
        have htwo := @combE_some ov l[j] l'[j] (l.drop (j + 1)) (l'.drop (j + 1))
        rw [← List.drop_eq_getElem_cons hlt, ← List.drop_eq_getElem_cons hlt2] at hz hone htwo
        have hrange := eqV_range l[j] l'[j]
        have hcall := HI.out l[j] (List.getElem_mem hlt) l'[j] (List.getElem_mem hlt2)
        generalize l[j] = s1 at *
        generalize l'[j] = s2 at *
        generalize eqV s1 s2 = E at *
        have HD := Lib.hid (And.intro hov (And.intro hR (And.intro hT (And.intro hz (And.intro hone (And.intro htwo (And.intro hcall (And.intro hv1 (And.intro hv2 (And.intro q0 (And.intro q1 (And.intro q2 (And.intro q3 (And.intro q4 (And.intro q5 hlt2)))))))))))))))
        clear hov hR hT hz hone htwo hcall hv1 hv2 q0 q1 q2 q3 q4 q5 hlt2 HJ
        go_wp2
        obtain ⟨hov, hR, hT, hz, hone, htwo, hcall, hv1, hv2, q0, q1, q2, q3, q4, q5, hlt2⟩ := HD.out
        have hbA := below_new (w := wr) (.cells #[.int .i64 s1.kind, .bool s1.b, .int .i64 s1.n, .string (strB s1.text), .slice pk1 s1.keys.length ck1, .slice pl1 s1.list.length cl1] 26)
        have hbox := heap_alloc_new wr (.cells #[.int .i64 s1.kind, .bool s1.b, .int .i64 s1.n, .string (strB s1.text), .slice pk1 s1.keys.length ck1, .slice pl1 s1.list.length cl1] 26)
        generalize hWA : wr.alloc (.cells #[.int .i64 s1.kind, .bool s1.b, .int .i64 s1.n, .string (strB s1.text), .slice pk1 s1.keys.length ck1, .slice pl1 s1.list.length cl1] 26) = WA at *
        have hb0 : Below WA.heap.size WA WA.drew := (Below.refl _ _).drew
        have hTA := hT.below hbA
        have r0 := belowCell hbA (ltOf q0) q0
        have r1 := belowCell hbA (ltOf q1) q1
        have r2 := belowCell hbA (ltOf q2) q2
        have r3 := belowCell hbA (ltOf q3) q3
        have r4 := belowCell hbA (ltOf q4) q4
        have r5 := belowCell hbA (ltOf q5) q5
        refine plain_region_draws (fun W => Below WA.heap.size WA W) (by kernel_rfl) hb0 (fun hU0 => ?_)
        refine take 0 61 (v := .agg #[.int .i64 s1.kind, .bool s1.b, .int .i64 s1.n, .string (strB s1.text), .slice pk1 s1.keys.length ck1, .slice pl1 s1.list.length cl1]) rfl rfl (by kernel_rfl) (by kernel_rfl) (by kernel_rfl) rfl (fun W hW => exec_load rfl rfl (get_val (belowBlk hW (Array.getElem?_eq_some_iff.1 hbox).1 hbox))) (by assumption) ?_
        simp only [Act.put, List.setIfInBounds_toArray, List.set_cons_zero, List.set_cons_succ]
        refine take 1 62 (v := .pointer (some ⟨w.heap.size + 1, 5, none⟩)) rfl rfl (by kernel_rfl) (by kernel_rfl) (by kernel_rfl) rfl (fun W hW => exec_fieldAddr rfl rfl (fa_value _ _ (by decide) W)) (by assumption) ?_
        simp only [Act.put, List.setIfInBounds_toArray, List.set_cons_zero, List.set_cons_succ]
        refine take 2 63 (v := .slice (some ⟨g2, o2, none⟩) l'.length cl') rfl rfl (by kernel_rfl) (by kernel_rfl) (by kernel_rfl) rfl (fun W hW => exec_load rfl rfl (run_load1 (w := W) Tryz.underlying24 rfl (cellOf (hTA.below hW).2.1 rfl))) (by assumption) ?_
        simp only [Act.put, List.setIfInBounds_toArray, List.set_cons_zero, List.set_cons_succ]
        refine take 3 64 (v := .int .i64 (j : Int)) rfl rfl (by kernel_rfl) (by kernel_rfl) (by kernel_rfl) rfl (fun W hW => exec_move rfl rfl) (by assumption) ?_
        simp only [Act.put, List.setIfInBounds_toArray, List.set_cons_zero, List.set_cons_succ]
        refine take 4 65 (v := .pointer (some ⟨g2, o2 + j * 6, none⟩)) rfl rfl (by kernel_rfl) (by kernel_rfl) (by kernel_rfl) rfl (fun W hW => exec_indexAddr rfl rfl rfl (ia_vals _ _ _ _ _ hlt2 W)) (by assumption) ?_
        simp only [Act.put, List.setIfInBounds_toArray, List.set_cons_zero, List.set_cons_succ]
        refine take 5 66 (v := .agg #[.int .i64 s2.kind, .bool s2.b, .int .i64 s2.n, .string (strB s2.text), .slice pk2 s2.keys.length ck2, .slice pl2 s2.list.length cl2]) rfl rfl (by kernel_rfl) (by kernel_rfl) (by kernel_rfl) rfl (fun W hW => exec_load rfl rfl (get_six (belowCell hW (ltOf r0) r0) (belowCell hW (ltOf r1) r1) (belowCell hW (ltOf r2) r2) (belowCell hW (ltOf r3) r3) (belowCell hW (ltOf r4) r4) (belowCell hW (ltOf r5) r5))) (by assumption) ?_
        simp only [Act.put, List.setIfInBounds_toArray, List.set_cons_zero, List.set_cons_succ]
        refine onlyCall 6 67 rfl rfl (by kernel_rfl) rfl (exec_call [.agg #[.int .i64 s1.kind, .bool s1.b, .int .i64 s1.n, .string (strB s1.text), .slice pk1 s1.keys.length ck1, .slice pl1 s1.list.length cl1], .agg #[.int .i64 s2.kind, .bool s2.b, .int .i64 s2.n, .string (strB s2.text), .slice pk2 s2.keys.length ck2, .slice pl2 s2.list.length cl2]] rfl rfl Tryz.func65 (by kernel_rfl) (by kernel_rfl)) ?_
        refine (hcall _ _ _ ((hv1.below hbA).below hU0) ((hv2.below hbA).below hU0)).mono ?_
        rintro e w5 ⟨rfl, hb5⟩
        have hU1 := hU0.trans (hb5.mono hU0.size)
        clear hb5
        refine ⟨_, rfl, .inr hU1, ?_⟩
        simp only [Act.put, List.setIfInBounds_toArray, List.set_cons_zero, List.set_cons_succ]
        refine done (by kernel_rfl) ?_ _
        have hTW := hTA.below hU1
        clear hWA hT hv1 hv2 q0 q1 q2 q3 q4 q5 hbA hbox hb0 hTA r0 r1 r2 r3 r4 r5 hU0 hU1 hcall
        rcases hrange with rfl | rfl | rfl
        · have HF := Lib.hid (And.intro (hR.trans (hz rfl)) hTW.2.2)
          clear hov hR hz hone htwo hTW
          go_wp2
          go_ret
          exact ⟨ret_int HF.out.1.symm, HF.out.2⟩
        · have HF := Lib.hid (And.intro (hR.trans (hone rfl)) hTW)
          clear hov hR hz hone htwo hTW
          go_wp2
          go_roundw
          case rel => exact ⟨j + 1, 1, by omega, by go_num, rfl, Lib.hid ⟨.inl rfl, HF.out.1, HF.out.2⟩⟩
          case measure => simp [intOf]; omega
        · have HF := Lib.hid (And.intro hov (And.intro (hR.trans (htwo rfl)) hTW))
          clear hov hR hz hone htwo hTW
          go_wp2
          go_roundw
          case rel => exact ⟨j + 1, ov, by omega, by go_num, rfl, HF⟩
          case measure => simp [intOf]; omega
      · have HF := Lib.hid (And.intro (show R = ov by
          rw [HJ.out.2.1, List.drop_eq_nil_of_le (by omega), combE_end _ HJ.out.1]) HJ.out.2.2.2.2)
        clear HJ
        go_wp2
        go_ret
        exact ⟨ret_int HF.out.1.symm, HF.out.2⟩
  · go_enter Tryz.func65, Tryz.ntmps65
    go_wp2_with (go_at_call 99; refine HE.out.mono ?_; rintro e w3 ⟨rfl, hb3⟩; have HT3 := Lib.hid (HT.out.below hb3); have p5 := cellOf (o := 5) HT3.out.1 rfl; clear hb3)
    go_loopw [5, 56] (fun o i wr => ∃ (j : Nat) (ov : Int), j ≤ l.length ∧ i = .int .i64 (j : Int) ∧ o = .int .i64 ov ∧ Hid ((ov = 1 ∨ ov = 2) ∧ R = combE ov (eqVs (l.drop j) (l'.drop j)) ∧ TwoV w wr #[.int .i64 5, .bool b, .int .i64 n, .string (strB t), .slice pk ks.length ck, .slice pl l.length cl] #[.int .i64 5, .bool b', .int .i64 n', .string (strB t'), .slice pk' ks'.length ck', .slice pl' l'.length cl'])) (fun _ i _ => l.length - (intOf i).toNat)
    case atStart => exact ⟨0, 2, Nat.zero_le _, rfl, rfl, Lib.hid ⟨.inr rfl, by rw [HR.out, combE_two _ (eqVs_range _ _)]; simp, HT3.out⟩⟩
    case round =>
      obtain ⟨j, ov, hj, rfl, rfl, HJ⟩ := hrel
      by_cases hlt : j < l.length
      · have hlt1 : j + 1 ≤ l.length := hlt
        have hlt2 : j < l'.length := by have := Hell.out; omega
        obtain ⟨hov, hR, hT⟩ := HJ.out
        obtain ⟨g1, o1, pk1, ck1, pl1, cl1, rfl, ⟨a0, a1, a2, a3, a4, a5⟩, hv1⟩ := (HL.out.1.below hT.2.2).at hlt
        obtain ⟨g2, o2, pk2, ck2, pl2, cl2, rfl, ⟨q0, q1, q2, q3, q4, q5⟩, hv2⟩ := (HL.out.2.below hT.2.2).at hlt2
        have hz := @combE_zero ov l[j] l'[j] (l.drop (j + 1)) (l'.drop (j + 1))
        have hone := @combE_one ov l[j] l'[j] (l.drop (j + 1)) (l'.drop (j + 1))
        have htwo := @combE_some ov l[j] l'[j] (l.drop (j + 1)) (l'.drop (j + 1))
        rw [← List.drop_eq_getElem_cons hlt, ← List.drop_eq_getElem_cons hlt2] at hz hone htwo
        have hrange := eqV_range l[j] l'[j]
        have hcall := HI.out l[j] (List.getElem_mem hlt) l'[j] (List.getElem_mem hlt2)
        generalize l[j] = s1 at *
        generalize l'[j] = s2 at *
        generalize eqV s1 s2 = E at *
        have HD := Lib.hid (And.intro hov (And.intro hR (And.intro hT (And.intro hz (And.intro hone (And.intro htwo (And.intro hcall (And.intro hv1 (And.intro hv2 (And.intro q0 (And.intro q1 (And.intro q2 (And.intro q3 (And.intro q4 (And.intro q5 hlt2)))))))))))))))
        clear hov hR hT hz hone htwo hcall hv1 hv2 q0 q1 q2 q3 q4 q5 hlt2 HJ
        go_wp2
        obtain ⟨hov, hR, hT, hz, hone, htwo, hcall, hv1, hv2, q0, q1, q2, q3, q4, q5, hlt2⟩ := HD.out
        have hbA := below_new (w := wr) (.cells #[.int .i64 s1.kind, .bool s1.b, .int .i64 s1.n, .string (strB s1.text), .slice pk1 s1.keys.length ck1, .slice pl1 s1.list.length cl1] 26)
        have hbox := heap_alloc_new wr (.cells #[.int .i64 s1.kind, .bool s1.b, .int .i64 s1.n, .string (strB s1.text), .slice pk1 s1.keys.length ck1, .slice pl1 s1.list.length cl1] 26)
        generalize hWA : wr.alloc (.cells #[.int .i64 s1.kind, .bool s1.b, .int .i64 s1.n, .string (strB s1.text), .slice pk1 s1.keys.length ck1, .slice pl1 s1.list.length cl1] 26) = WA at *
        have hb0 : Below WA.heap.size WA WA.drew := (Below.refl _ _).drew
        have hTA := hT.below hbA
        have r0 := belowCell hbA (ltOf q0) q0
        have r1 := belowCell hbA (ltOf q1) q1
        have r2 := belowCell hbA (ltOf q2) q2
        have r3 := belowCell hbA (ltOf q3) q3
        have r4 := belowCell hbA (ltOf q4) q4
        have r5 := belowCell hbA (ltOf q5) q5
        refine plain_region_draws (fun W => Below WA.heap.size WA W) (by kernel_rfl) hb0 (fun hU0 => ?_)
        refine take 0 61 (v := .agg #[.int .i64 s1.kind, .bool s1.b, .int .i64 s1.n, .string (strB s1.text), .slice pk1 s1.keys.length ck1, .slice pl1 s1.list.length cl1]) rfl rfl (by kernel_rfl) (by kernel_rfl) (by kernel_rfl) rfl (fun W hW => exec_load rfl rfl (get_val (belowBlk hW (Array.getElem?_eq_some_iff.1 hbox).1 hbox))) (by assumption) ?_
        simp only [Act.put, List.setIfInBounds_toArray, List.set_cons_zero, List.set_cons_succ]
        refine take 1 62 (v := .pointer (some ⟨w.heap.size + 1, 5, none⟩)) rfl rfl (by kernel_rfl) (by kernel_rfl) (by kernel_rfl) rfl (fun W hW => exec_fieldAddr rfl rfl (fa_value _ _ (by decide) W)) (by assumption) ?_
        simp only [Act.put, List.setIfInBounds_toArray, List.set_cons_zero, List.set_cons_succ]
        refine take 2 63 (v := .slice (some ⟨g2, o2, none⟩) l'.length cl') rfl rfl (by kernel_rfl) (by kernel_rfl) (by kernel_rfl) rfl (fun W hW => exec_load rfl rfl (run_load1 (w := W) Tryz.underlying24 rfl (cellOf (hTA.below hW).2.1 rfl))) (by assumption) ?_
        simp only [Act.put, List.setIfInBounds_toArray, List.set_cons_zero, List.set_cons_succ]
        refine take 3 64 (v := .int .i64 (j : Int)) rfl rfl (by kernel_rfl) (by kernel_rfl) (by kernel_rfl) rfl (fun W hW => exec_move rfl rfl) (by assumption) ?_
        simp only [Act.put, List.setIfInBounds_toArray, List.set_cons_zero, List.set_cons_succ]
        refine take 4 65 (v := .pointer (some ⟨g2, o2 + j * 6, none⟩)) rfl rfl (by kernel_rfl) (by kernel_rfl) (by kernel_rfl) rfl (fun W hW => exec_indexAddr rfl rfl rfl (ia_vals _ _ _ _ _ hlt2 W)) (by assumption) ?_
        simp only [Act.put, List.setIfInBounds_toArray, List.set_cons_zero, List.set_cons_succ]
        refine take 5 66 (v := .agg #[.int .i64 s2.kind, .bool s2.b, .int .i64 s2.n, .string (strB s2.text), .slice pk2 s2.keys.length ck2, .slice pl2 s2.list.length cl2]) rfl rfl (by kernel_rfl) (by kernel_rfl) (by kernel_rfl) rfl (fun W hW => exec_load rfl rfl (get_six (belowCell hW (ltOf r0) r0) (belowCell hW (ltOf r1) r1) (belowCell hW (ltOf r2) r2) (belowCell hW (ltOf r3) r3) (belowCell hW (ltOf r4) r4) (belowCell hW (ltOf r5) r5))) (by assumption) ?_
        simp only [Act.put, List.setIfInBounds_toArray, List.set_cons_zero, List.set_cons_succ]
        refine onlyCall 6 67 rfl rfl (by kernel_rfl) rfl (exec_call [.agg #[.int .i64 s1.kind, .bool s1.b, .int .i64 s1.n, .string (strB s1.text), .slice pk1 s1.keys.length ck1, .slice pl1 s1.list.length cl1], .agg #[.int .i64 s2.kind, .bool s2.b, .int .i64 s2.n, .string (strB s2.text), .slice pk2 s2.keys.length ck2, .slice pl2 s2.list.length cl2]] rfl rfl Tryz.func65 (by kernel_rfl) (by kernel_rfl)) ?_
        refine (hcall _ _ _ ((hv1.below hbA).below hU0) ((hv2.below hbA).below hU0)).mono ?_
        rintro e w5 ⟨rfl, hb5⟩
        have hU1 := hU0.trans (hb5.mono hU0.size)
        clear hb5
        refine ⟨_, rfl, .inr hU1, ?_⟩
        simp only [Act.put, List.setIfInBounds_toArray, List.set_cons_zero, List.set_cons_succ]
        refine done (by kernel_rfl) ?_ _
        have hTW := hTA.below hU1
        clear hWA hT hv1 hv2 q0 q1 q2 q3 q4 q5 hbA hbox hb0 hTA r0 r1 r2 r3 r4 r5 hU0 hU1 hcall
        rcases hrange with rfl | rfl | rfl
        · have HF := Lib.hid (And.intro (hR.trans (hz rfl)) hTW.2.2)
          clear hov hR hz hone htwo hTW
          go_wp2
          go_ret
          exact ⟨ret_int HF.out.1.symm, HF.out.2⟩
        · have HF := Lib.hid (And.intro (hR.trans (hone rfl)) hTW)
          clear hov hR hz hone htwo hTW
          go_wp2
          go_roundw
          case rel => exact ⟨j + 1, 1, by omega, by go_num, rfl, Lib.hid ⟨.inl rfl, HF.out.1, HF.out.2⟩⟩
          case measure => simp [intOf]; omega
        · have HF := Lib.hid (And.intro hov (And.intro (hR.trans (htwo rfl)) hTW))
          clear hov hR hz hone htwo hTW
          go_wp2
          go_roundw
          case rel => exact ⟨j + 1, ov, by omega, by go_num, rfl, HF⟩
          case measure => simp [intOf]; omega
      · have HF := Lib.hid (And.intro (show R = ov by
          rw [HJ.out.2.1, List.drop_eq_nil_of_le (by omega), combE_end _ HJ.out.1]) HJ.out.2.2.2.2)
        clear HJ
        go_wp2
        go_ret
        exact ⟨ret_int HF.out.1.symm, HF.out.2⟩
end Go.Proofs.YtnkaegdnjfpliaaGreatDoor
