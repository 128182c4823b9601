/- The document's Texts. Printed by gen_texts.py. -/
import Derived.Test.YtnkaegdnjfpliaaGreatDoorVcmpr
import Derived.Test.YtnkaegdnjfpliaaGreatDoorVquote
namespace Go.Proofs.YtnkaegdnjfpliaaGreatDoor
set_option linter.unusedSimpArgs false
set_option linter.unusedVariables false
open Go.RowKit

theorem exec_index {P : Program} {a : Act} {w w' : World} {o : Oper} {t : TypeId} {x y : Operand} {vx vy v : Value} (ho : o.op = .index t x y) (hx : a.eval x = vx) (hy : a.eval y = vy) (hr : (Instr.index t vx vy).run P w = .ok v w') :
    (execOp a.eval o).run P w = .ok (.value v) w' := by
  unfold execOp; rw [ho]; simp only [hx, hy, Sem.run_bind, hr, Result.andThen_ok, Sem.run_pure]
theorem index_str (l : List UInt8) (j : Nat) (h : j < l.length) (W : World) : (Instr.index 9 (.string (strB l)) (.int .i64 (j : Int))).run Tryz.prog W = .ok (.int .u8 (l[j].toNat : Int)) W := by
  have h1 : 0 ≤ (j : Int) := by omega
  simp [go_sem, h1]
  rw [dif_pos (show j < (strB l).size from h)]
  rfl
theorem conv_u8 (n : Nat) (h : n < 256) (W : World) : (convert 5 2 (.int .u8 (n : Int))).run Tryz.prog W = .ok (.int .i64 (n : Int)) W := by
  have e : IntKind.i64.wrap (n : Int) = n := by simp [IntKind.wrap, IntKind.signed, IntKind.bits]; omega
  simp [go_sem, e]
set_option maxRecDepth 100000 in
set_option maxHeartbeats 8000000 in
theorem texts_any (a b : List UInt8) (ha : a.length ≤ 140737488355328) (hb : b.length ≤ 140737488355328) (w : World) : Calls Tryz.prog 61 #[.string (strB a), .string (strB b)] w fun e w' => e = .returned (.int .i64 (cmpB a b)) ∧ Below w.heap.size w w' := by
  have sa : (strB a).size = a.length := rfl
  have sb : (strB b).size = b.length := rfl
  have z1 : (a.length : Int) ≤ 140737488355328 := by omega
  have z2 : (b.length : Int) ≤ 140737488355328 := by omega
  clear ha hb
  go_enter Tryz.func61, Tryz.ntmps61
  go_wp2
  go_loopw [5] (fun i W => ∃ j : Nat, j ≤ a.length ∧ i = .int .i64 (j : Int) ∧ j ≤ b.length ∧ Hid (a.take j = b.take j) ∧ Hid (Below w.heap.size w W)) (fun i _ => a.length - (intOf i).toNat)
  case atStart => exact ⟨0, Nat.zero_le _, rfl, Nat.zero_le _, Lib.hid rfl, Lib.hid (Below.refl _ _)⟩
  case round =>
    obtain ⟨j, hj, rfl, hj2, HQ, HB⟩ := hrel
    by_cases h1 : j < a.length
    · by_cases h2 : j < b.length
      · have hl1 : j + 1 ≤ a.length := h1
        have hl2 : j + 1 ≤ b.length := h2
        by_cases hne : a[j] = b[j]
        · have htk : a.take (j + 1) = b.take (j + 1) := by rw [List.take_succ_eq_append_getElem h1, List.take_succ_eq_append_getElem h2, HQ.out, hne]
          have hq : ∀ W : World, (binOp .neq 5 (.int .u8 (a[j].toNat : Int)) (.int .u8 (b[j].toNat : Int))).run Tryz.prog W = .ok (.bool false) W := fun W => by simp [go_sem, hne]
          have HN := Lib.hid htk
          go_wp2
          refine plain_region_draws (fun _ => True) (by kernel_rfl) trivial (fun _ => ?_)
          refine take 0 18 (v := .string (strB a)) rfl rfl (by kernel_rfl) (by kernel_rfl) (by kernel_rfl) rfl (fun W hW => exec_move rfl rfl) trivial ?_
          simp only [Act.put, List.setIfInBounds_toArray, List.set_cons_zero, List.set_cons_succ]
          refine take 1 19 (v := .int .i64 (j : Int)) rfl rfl (by kernel_rfl) (by kernel_rfl) (by kernel_rfl) rfl (fun W hW => exec_move rfl rfl) trivial ?_
          simp only [Act.put, List.setIfInBounds_toArray, List.set_cons_zero, List.set_cons_succ]
          refine take 2 20 (v := .int .u8 (a[j].toNat : Int)) rfl rfl (by kernel_rfl) (by kernel_rfl) (by kernel_rfl) rfl (fun W hW => exec_index rfl rfl rfl (index_str _ _ h1 W)) trivial ?_
          simp only [Act.put, List.setIfInBounds_toArray, List.set_cons_zero, List.set_cons_succ]
          refine take 3 21 (v := .string (strB b)) rfl rfl (by kernel_rfl) (by kernel_rfl) (by kernel_rfl) rfl (fun W hW => exec_move rfl rfl) trivial ?_
          simp only [Act.put, List.setIfInBounds_toArray, List.set_cons_zero, List.set_cons_succ]
          refine take 4 22 (v := .int .i64 (j : Int)) rfl rfl (by kernel_rfl) (by kernel_rfl) (by kernel_rfl) rfl (fun W hW => exec_move rfl rfl) trivial ?_
          simp only [Act.put, List.setIfInBounds_toArray, List.set_cons_zero, List.set_cons_succ]
          refine take 5 23 (v := .int .u8 (b[j].toNat : Int)) rfl rfl (by kernel_rfl) (by kernel_rfl) (by kernel_rfl) rfl (fun W hW => exec_index rfl rfl rfl (index_str _ _ h2 W)) trivial ?_
          simp only [Act.put, List.setIfInBounds_toArray, List.set_cons_zero, List.set_cons_succ]
          refine take 6 24 (v := .bool false) rfl rfl (by kernel_rfl) (by kernel_rfl) (by kernel_rfl) rfl (fun W hW => exec_bin rfl rfl rfl rfl (hq W)) trivial ?_
          simp only [Act.put, List.setIfInBounds_toArray, List.set_cons_zero, List.set_cons_succ]
          refine done (by kernel_rfl) ?_ _
          clear hq hne htk HQ
          go_wp2
          go_roundw
          case rel => exact ⟨j + 1, hl1, by go_num, hl2, HN, Lib.hid HB.out.drew⟩
          case measure => simp [intOf]; omega
        · have hcm := cmpB_at h1 h2 HQ.out hne
          have hq : ∀ W : World, (binOp .neq 5 (.int .u8 (a[j].toNat : Int)) (.int .u8 (b[j].toNat : Int))).run Tryz.prog W = .ok (.bool true) W := fun W => by
            have : ¬ (a[j].toNat : Int) = (b[j].toNat : Int) := fun e => hne (UInt8.toNat_inj.1 (by omega))
            simp [go_sem, this]
          have HN := Lib.hid hcm
          have u1 := a[j].toNat_lt
          have u2 := b[j].toNat_lt
          go_wp2
          refine plain_region_draws (fun _ => True) (by kernel_rfl) trivial (fun _ => ?_)
          refine take 0 18 (v := .string (strB a)) rfl rfl (by kernel_rfl) (by kernel_rfl) (by kernel_rfl) rfl (fun W hW => exec_move rfl rfl) trivial ?_
          simp only [Act.put, List.setIfInBounds_toArray, List.set_cons_zero, List.set_cons_succ]
          refine take 1 19 (v := .int .i64 (j : Int)) rfl rfl (by kernel_rfl) (by kernel_rfl) (by kernel_rfl) rfl (fun W hW => exec_move rfl rfl) trivial ?_
          simp only [Act.put, List.setIfInBounds_toArray, List.set_cons_zero, List.set_cons_succ]
          refine take 2 20 (v := .int .u8 (a[j].toNat : Int)) rfl rfl (by kernel_rfl) (by kernel_rfl) (by kernel_rfl) rfl (fun W hW => exec_index rfl rfl rfl (index_str _ _ h1 W)) trivial ?_
          simp only [Act.put, List.setIfInBounds_toArray, List.set_cons_zero, List.set_cons_succ]
          refine take 3 21 (v := .string (strB b)) rfl rfl (by kernel_rfl) (by kernel_rfl) (by kernel_rfl) rfl (fun W hW => exec_move rfl rfl) trivial ?_
          simp only [Act.put, List.setIfInBounds_toArray, List.set_cons_zero, List.set_cons_succ]
          refine take 4 22 (v := .int .i64 (j : Int)) rfl rfl (by kernel_rfl) (by kernel_rfl) (by kernel_rfl) rfl (fun W hW => exec_move rfl rfl) trivial ?_
          simp only [Act.put, List.setIfInBounds_toArray, List.set_cons_zero, List.set_cons_succ]
          refine take 5 23 (v := .int .u8 (b[j].toNat : Int)) rfl rfl (by kernel_rfl) (by kernel_rfl) (by kernel_rfl) rfl (fun W hW => exec_index rfl rfl rfl (index_str _ _ h2 W)) trivial ?_
          simp only [Act.put, List.setIfInBounds_toArray, List.set_cons_zero, List.set_cons_succ]
          refine take 6 24 (v := .bool true) rfl rfl (by kernel_rfl) (by kernel_rfl) (by kernel_rfl) rfl (fun W hW => exec_bin rfl rfl rfl rfl (hq W)) trivial ?_
          simp only [Act.put, List.setIfInBounds_toArray, List.set_cons_zero, List.set_cons_succ]
          refine done (by kernel_rfl) ?_ _
          go_wp2
          refine plain_region_draws (fun _ => True) (by kernel_rfl) trivial (fun _ => ?_)
          refine take 0 25 (v := .string (strB a)) rfl rfl (by kernel_rfl) (by kernel_rfl) (by kernel_rfl) rfl (fun W hW => exec_move rfl rfl) trivial ?_
          simp only [Act.put, List.setIfInBounds_toArray, List.set_cons_zero, List.set_cons_succ]
          refine take 1 26 (v := .int .i64 (j : Int)) rfl rfl (by kernel_rfl) (by kernel_rfl) (by kernel_rfl) rfl (fun W hW => exec_move rfl rfl) trivial ?_
          simp only [Act.put, List.setIfInBounds_toArray, List.set_cons_zero, List.set_cons_succ]
          refine take 2 27 (v := .int .u8 (a[j].toNat : Int)) rfl rfl (by kernel_rfl) (by kernel_rfl) (by kernel_rfl) rfl (fun W hW => exec_index rfl rfl rfl (index_str _ _ h1 W)) trivial ?_
          simp only [Act.put, List.setIfInBounds_toArray, List.set_cons_zero, List.set_cons_succ]
          refine take 3 28 (v := .int .i64 (a[j].toNat : Int)) rfl rfl (by kernel_rfl) (by kernel_rfl) (by kernel_rfl) rfl (fun W hW => exec_convert rfl rfl (conv_u8 _ u1 W)) trivial ?_
          simp only [Act.put, List.setIfInBounds_toArray, List.set_cons_zero, List.set_cons_succ]
          refine take 4 29 (v := .string (strB b)) rfl rfl (by kernel_rfl) (by kernel_rfl) (by kernel_rfl) rfl (fun W hW => exec_move rfl rfl) trivial ?_
          simp only [Act.put, List.setIfInBounds_toArray, List.set_cons_zero, List.set_cons_succ]
          refine take 5 30 (v := .int .i64 (j : Int)) rfl rfl (by kernel_rfl) (by kernel_rfl) (by kernel_rfl) rfl (fun W hW => exec_move rfl rfl) trivial ?_
          simp only [Act.put, List.setIfInBounds_toArray, List.set_cons_zero, List.set_cons_succ]
          refine take 6 31 (v := .int .u8 (b[j].toNat : Int)) rfl rfl (by kernel_rfl) (by kernel_rfl) (by kernel_rfl) rfl (fun W hW => exec_index rfl rfl rfl (index_str _ _ h2 W)) trivial ?_
          simp only [Act.put, List.setIfInBounds_toArray, List.set_cons_zero, List.set_cons_succ]
          refine take 7 32 (v := .int .i64 (b[j].toNat : Int)) rfl rfl (by kernel_rfl) (by kernel_rfl) (by kernel_rfl) rfl (fun W hW => exec_convert rfl rfl (conv_u8 _ u2 W)) trivial ?_
          simp only [Act.put, List.setIfInBounds_toArray, List.set_cons_zero, List.set_cons_succ]
          refine onlyCall 8 33 rfl rfl (by kernel_rfl) rfl (exec_call [.int .i64 (a[j].toNat : Int), .int .i64 (b[j].toNat : Int)] rfl rfl Tryz.func59 (by kernel_rfl) (by kernel_rfl)) ?_
          refine (ints_any _ _ _).mono ?_
          rintro e w' ⟨rfl, rfl⟩
          refine ⟨_, rfl, .inr trivial, ?_⟩
          simp only [Act.put, List.setIfInBounds_toArray, List.set_cons_zero, List.set_cons_succ]
          refine take 9 4 (v := .int .i64 (cmpI (a[j].toNat : Int) (b[j].toNat : Int))) rfl rfl (by kernel_rfl) (by kernel_rfl) (by kernel_rfl) rfl (fun W hW => exec_assign rfl rfl) trivial ?_
          simp only [Act.put, List.setIfInBounds_toArray, List.set_cons_zero, List.set_cons_succ]
          refine done (by kernel_rfl) ?_ _
          go_wp2
          go_ret
          exact ⟨ret_int HN.out.symm, HB.out.drew.drew⟩
      · have hj3 : j = b.length := by omega
        have HN := Lib.hid (cmpB_len hj hj2 HQ.out (.inr hj3))
        go_wp2_with (go_at_call 59; refine (ints_any _ _ _).mono ?_; rintro e w' ⟨rfl, rfl⟩)
        go_ret
        exact ⟨ret_int HN.out.symm, HB.out⟩
    · have hj3 : j = a.length := by omega
      have HN := Lib.hid (cmpB_len hj hj2 HQ.out (.inl hj3))
      go_wp2_with (go_at_call 59; refine (ints_any _ _ _).mono ?_; rintro e w' ⟨rfl, rfl⟩)
      go_ret
      exact ⟨ret_int HN.out.symm, HB.out⟩
end Go.Proofs.YtnkaegdnjfpliaaGreatDoor
