/- The document's ints, rank and Texts. -/
import Derived.Test.YtnkaegdnjfpliaaGreatDoorVmay
namespace Go.Proofs.YtnkaegdnjfpliaaGreatDoor
set_option linter.unusedSimpArgs false
set_option linter.unusedVariables false
open Go.RowKit

set_option maxRecDepth 100000 in
theorem ints_any (a b : Int) (w : World) : Calls Tryz.prog 59 #[.int .i64 a, .int .i64 b] w fun e w' => e = .returned (.int .i64 (cmpI a b)) ∧ w = w' := by
  rcases cmpI_cases a b with ⟨h, e⟩ | ⟨h, e⟩ | ⟨h, e⟩
  all_goals
    rw [e]
    have h1 : decide (a < b) = decide (a < b) := rfl
    go_enter Tryz.func59, Tryz.ntmps59
  · have d1 : decide (a < b) = true := by simpa using h
    go_wp2
    go_ret
    exact ⟨rfl, rfl⟩
  · subst h
    go_wp2
    go_ret
    exact ⟨rfl, rfl⟩
  · have d1 : decide (a < b) = false := by simp; omega
    have d2 : decide (b < a) = true := by simpa using h
    go_wp2
    go_ret
    exact ⟨rfl, rfl⟩
/-! ### Texts -/
theorem cmpB_skip : ∀ (j : Nat) (a b : List UInt8), a.take j = b.take j → j ≤ a.length → j ≤ b.length → cmpB a b = cmpB (a.drop j) (b.drop j) := by
  intro j
  induction j with
  | zero => intro a b _ _ _; simp
  | succ j ih =>
    intro a b h ha hb
    cases a with
    | nil => simp at ha
    | cons x r =>
      cases b with
      | nil => simp at hb
      | cons y s =>
        simp only [List.take_succ_cons, List.cons.injEq] at h
        obtain ⟨rfl, h⟩ := h
        simp only [List.drop_succ_cons]
        rw [← ih r s h (by simpa using ha) (by simpa using hb)]
        unfold cmpB
        rw [cmpL]
        rw [if_neg (by rw [cmpI_self]; simp)]
theorem cmpB_at {a b : List UInt8} {j : Nat} (ha : j < a.length) (hb : j < b.length) (h : a.take j = b.take j) (hne : a[j] ≠ b[j]) : cmpB a b = cmpI (a[j].toNat : Int) (b[j].toNat : Int) := by
  rw [cmpB_skip j a b h (by omega) (by omega), List.drop_eq_getElem_cons ha, List.drop_eq_getElem_cons hb]
  unfold cmpB
  rw [cmpL, if_pos]
  intro e
  have := cmpI_zero e
  exact hne (UInt8.toNat_inj.1 (by omega))
theorem cmpB_len {a b : List UInt8} {j : Nat} (ha : j ≤ a.length) (hb : j ≤ b.length) (h : a.take j = b.take j) (he : j = a.length ∨ j = b.length) : cmpB a b = cmpI (a.length : Int) (b.length : Int) := by
  rw [cmpB_skip j a b h ha hb]
  rcases he with rfl | rfl
  · rw [List.drop_length]
    cases hd : b.drop a.length with
    | nil =>
      have : b.length = a.length := by have := congrArg List.length hd; simp at this; omega
      rw [this, cmpI_self]; rfl
    | cons y s =>
      have : a.length < b.length := by have := congrArg List.length hd; simp at this; omega
      unfold cmpI
      rw [if_pos (by omega)]; rfl
  · rw [List.drop_length]
    cases hd : a.drop b.length with
    | nil =>
      have : a.length = b.length := by have := congrArg List.length hd; simp at this; omega
      rw [this, cmpI_self]; rfl
    | cons y s =>
      have : b.length < a.length := by have := congrArg List.length hd; simp at this; omega
      unfold cmpI
      rw [if_neg (by omega), if_pos (by omega)]; rfl
set_option maxRecDepth 100000 in
set_option maxHeartbeats 4000000 in
theorem rankR_any (k : Int) (h0 : 0 ≤ k) (h7 : k ≤ 7) (w : World) : Calls Tryz.prog 60 #[.int .i64 k] w fun e w' => e = .returned (.int .i64 (rankV k)) ∧ Below w.heap.size w w' := by
  have HB := Lib.hid (below_new (w := w) (.cells #[.int .i64 5, .int .i64 6, .int .i64 7, .int .i64 4, .int .i64 3, .int .i64 1, .int .i64 2, .int .i64 0] 22))
  have hb := heap_alloc_new w (.cells #[.int .i64 5, .int .i64 6, .int .i64 7, .int .i64 4, .int .i64 3, .int .i64 1, .int .i64 2, .int .i64 0] 22)
  have c0 := cellOf (o := 0) hb rfl; have c1 := cellOf (o := 1) hb rfl; have c2 := cellOf (o := 2) hb rfl; have c3 := cellOf (o := 3) hb rfl
  have c4 := cellOf (o := 4) hb rfl; have c5 := cellOf (o := 5) hb rfl; have c6 := cellOf (o := 6) hb rfl; have c7 := cellOf (o := 7) hb rfl
  have HC := Lib.hid (And.intro c0 (And.intro c1 (And.intro c2 (And.intro c3 (And.intro c4 (And.intro c5 (And.intro c6 c7)))))))
  clear c0 c1 c2 c3 c4 c5 c6 c7 hb
  have hk : k = 5 ∨ k = 6 ∨ k = 7 ∨ k = 4 ∨ k = 3 ∨ k = 1 ∨ k = 2 ∨ k = 0 := by omega
  clear h0 h7
  rcases hk with rfl | rfl | rfl | rfl | rfl | rfl | rfl | rfl
  · have e : rankV 5 = 0 := rfl
    rw [e]
    go_enter Tryz.func60, Tryz.ntmps60
    go_wp2
    go_loopw [4] (fun i W => ∃ j : Nat, j ≤ 0 ∧ i = .int .i64 (j : Int) ∧ Hid (W = w.alloc (.cells #[.int .i64 5, .int .i64 6, .int .i64 7, .int .i64 4, .int .i64 3, .int .i64 1, .int .i64 2, .int .i64 0] 22))) (fun i _ => 8 - (intOf i).toNat)
    case atStart => exact ⟨0, Nat.zero_le _, rfl, Lib.hid rfl⟩
    case round =>
      obtain ⟨j, hj, rfl, HW⟩ := hrel
      have hW := HW.out
      subst hW
      clear HW
      obtain ⟨c0, c1, c2, c3, c4, c5, c6, c7⟩ := HC.out
      have hjj : j = 0 := by omega
      rcases hjj with rfl
      · clear hj
        go_wp2
        go_ret
        exact ⟨rfl, HB.out⟩
  · have e : rankV 6 = 1 := rfl
    rw [e]
    go_enter Tryz.func60, Tryz.ntmps60
    go_wp2
    go_loopw [4] (fun i W => ∃ j : Nat, j ≤ 1 ∧ i = .int .i64 (j : Int) ∧ Hid (W = w.alloc (.cells #[.int .i64 5, .int .i64 6, .int .i64 7, .int .i64 4, .int .i64 3, .int .i64 1, .int .i64 2, .int .i64 0] 22))) (fun i _ => 8 - (intOf i).toNat)
    case atStart => exact ⟨0, Nat.zero_le _, rfl, Lib.hid rfl⟩
    case round =>
      obtain ⟨j, hj, rfl, HW⟩ := hrel
      have hW := HW.out
      subst hW
      clear HW
      obtain ⟨c0, c1, c2, c3, c4, c5, c6, c7⟩ := HC.out
      have hjj : j = 0 ∨ j = 1 := by omega
      rcases hjj with rfl | rfl
      · clear hj
        go_wp2
        go_roundw
        case rel => exact ⟨1, by omega, by go_num, Lib.hid trivial⟩
        case measure => simp [intOf]
      · clear hj
        go_wp2
        go_ret
        exact ⟨rfl, HB.out⟩
  · have e : rankV 7 = 2 := rfl
    rw [e]
    go_enter Tryz.func60, Tryz.ntmps60
    go_wp2
    go_loopw [4] (fun i W => ∃ j : Nat, j ≤ 2 ∧ i = .int .i64 (j : Int) ∧ Hid (W = w.alloc (.cells #[.int .i64 5, .int .i64 6, .int .i64 7, .int .i64 4, .int .i64 3, .int .i64 1, .int .i64 2, .int .i64 0] 22))) (fun i _ => 8 - (intOf i).toNat)
    case atStart => exact ⟨0, Nat.zero_le _, rfl, Lib.hid rfl⟩
    case round =>
      obtain ⟨j, hj, rfl, HW⟩ := hrel
      have hW := HW.out
      subst hW
      clear HW
      obtain ⟨c0, c1, c2, c3, c4, c5, c6, c7⟩ := HC.out
      have hjj : j = 0 ∨ j = 1 ∨ j = 2 := by omega
      rcases hjj with rfl | rfl | rfl
      · clear hj
        go_wp2
        go_roundw
        case rel => exact ⟨1, by omega, by go_num, Lib.hid trivial⟩
        case measure => simp [intOf]
      · clear hj
        go_wp2
        go_roundw
        case rel => exact ⟨2, by omega, by go_num, Lib.hid trivial⟩
        case measure => simp [intOf]
      · clear hj
        go_wp2
        go_ret
        exact ⟨rfl, HB.out⟩
  · have e : rankV 4 = 3 := rfl
    rw [e]
    go_enter Tryz.func60, Tryz.ntmps60
    go_wp2
    go_loopw [4] (fun i W => ∃ j : Nat, j ≤ 3 ∧ i = .int .i64 (j : Int) ∧ Hid (W = w.alloc (.cells #[.int .i64 5, .int .i64 6, .int .i64 7, .int .i64 4, .int .i64 3, .int .i64 1, .int .i64 2, .int .i64 0] 22))) (fun i _ => 8 - (intOf i).toNat)
    case atStart => exact ⟨0, Nat.zero_le _, rfl, Lib.hid rfl⟩
    case round =>
      obtain ⟨j, hj, rfl, HW⟩ := hrel
      have hW := HW.out
      subst hW
      clear HW
      obtain ⟨c0, c1, c2, c3, c4, c5, c6, c7⟩ := HC.out
      have hjj : j = 0 ∨ j = 1 ∨ j = 2 ∨ j = 3 := by omega
      rcases hjj with rfl | rfl | rfl | rfl
      · clear hj
        go_wp2
        go_roundw
        case rel => exact ⟨1, by omega, by go_num, Lib.hid trivial⟩
        case measure => simp [intOf]
      · clear hj
        go_wp2
        go_roundw
        case rel => exact ⟨2, by omega, by go_num, Lib.hid trivial⟩
        case measure => simp [intOf]
      · clear hj
        go_wp2
        go_roundw
        case rel => exact ⟨3, by omega, by go_num, Lib.hid trivial⟩
        case measure => simp [intOf]
      · clear hj
        go_wp2
        go_ret
        exact ⟨rfl, HB.out⟩
  · have e : rankV 3 = 4 := rfl
    rw [e]
    go_enter Tryz.func60, Tryz.ntmps60
    go_wp2
    go_loopw [4] (fun i W => ∃ j : Nat, j ≤ 4 ∧ i = .int .i64 (j : Int) ∧ Hid (W = w.alloc (.cells #[.int .i64 5, .int .i64 6, .int .i64 7, .int .i64 4, .int .i64 3, .int .i64 1, .int .i64 2, .int .i64 0] 22))) (fun i _ => 8 - (intOf i).toNat)
    case atStart => exact ⟨0, Nat.zero_le _, rfl, Lib.hid rfl⟩
    case round =>
      obtain ⟨j, hj, rfl, HW⟩ := hrel
      have hW := HW.out
      subst hW
      clear HW
      obtain ⟨c0, c1, c2, c3, c4, c5, c6, c7⟩ := HC.out
      have hjj : j = 0 ∨ j = 1 ∨ j = 2 ∨ j = 3 ∨ j = 4 := by omega
      rcases hjj with rfl | rfl | rfl | rfl | rfl
      · clear hj
        go_wp2
        go_roundw
        case rel => exact ⟨1, by omega, by go_num, Lib.hid trivial⟩
        case measure => simp [intOf]
      · clear hj
        go_wp2
        go_roundw
        case rel => exact ⟨2, by omega, by go_num, Lib.hid trivial⟩
        case measure => simp [intOf]
      · clear hj
        go_wp2
        go_roundw
        case rel => exact ⟨3, by omega, by go_num, Lib.hid trivial⟩
        case measure => simp [intOf]
      · clear hj
        go_wp2
        go_roundw
        case rel => exact ⟨4, by omega, by go_num, Lib.hid trivial⟩
        case measure => simp [intOf]
      · clear hj
        go_wp2
        go_ret
        exact ⟨rfl, HB.out⟩
  · have e : rankV 1 = 5 := rfl
    rw [e]
    go_enter Tryz.func60, Tryz.ntmps60
    go_wp2
    go_loopw [4] (fun i W => ∃ j : Nat, j ≤ 5 ∧ i = .int .i64 (j : Int) ∧ Hid (W = w.alloc (.cells #[.int .i64 5, .int .i64 6, .int .i64 7, .int .i64 4, .int .i64 3, .int .i64 1, .int .i64 2, .int .i64 0] 22))) (fun i _ => 8 - (intOf i).toNat)
    case atStart => exact ⟨0, Nat.zero_le _, rfl, Lib.hid rfl⟩
    case round =>
      obtain ⟨j, hj, rfl, HW⟩ := hrel
      have hW := HW.out
      subst hW
      clear HW
      obtain ⟨c0, c1, c2, c3, c4, c5, c6, c7⟩ := HC.out
      have hjj : j = 0 ∨ j = 1 ∨ j = 2 ∨ j = 3 ∨ j = 4 ∨ j = 5 := by omega
      rcases hjj with rfl | rfl | rfl | rfl | rfl | rfl
      · clear hj
        go_wp2
        go_roundw
        case rel => exact ⟨1, by omega, by go_num, Lib.hid trivial⟩
        case measure => simp [intOf]
      · clear hj
        go_wp2
        go_roundw
        case rel => exact ⟨2, by omega, by go_num, Lib.hid trivial⟩
        case measure => simp [intOf]
      · clear hj
        go_wp2
        go_roundw
        case rel => exact ⟨3, by omega, by go_num, Lib.hid trivial⟩
        case measure => simp [intOf]
      · clear hj
        go_wp2
        go_roundw
        case rel => exact ⟨4, by omega, by go_num, Lib.hid trivial⟩
        case measure => simp [intOf]
      · clear hj
        go_wp2
        go_roundw
        case rel => exact ⟨5, by omega, by go_num, Lib.hid trivial⟩
        case measure => simp [intOf]
      · clear hj
        go_wp2
        go_ret
        exact ⟨rfl, HB.out⟩
  · have e : rankV 2 = 6 := rfl
    rw [e]
    go_enter Tryz.func60, Tryz.ntmps60
    go_wp2
    go_loopw [4] (fun i W => ∃ j : Nat, j ≤ 6 ∧ i = .int .i64 (j : Int) ∧ Hid (W = w.alloc (.cells #[.int .i64 5, .int .i64 6, .int .i64 7, .int .i64 4, .int .i64 3, .int .i64 1, .int .i64 2, .int .i64 0] 22))) (fun i _ => 8 - (intOf i).toNat)
    case atStart => exact ⟨0, Nat.zero_le _, rfl, Lib.hid rfl⟩
    case round =>
      obtain ⟨j, hj, rfl, HW⟩ := hrel
      have hW := HW.out
      subst hW
      clear HW
      obtain ⟨c0, c1, c2, c3, c4, c5, c6, c7⟩ := HC.out
      have hjj : j = 0 ∨ j = 1 ∨ j = 2 ∨ j = 3 ∨ j = 4 ∨ j = 5 ∨ j = 6 := by omega
      rcases hjj with rfl | rfl | rfl | rfl | rfl | rfl | rfl
      · clear hj
        go_wp2
        go_roundw
        case rel => exact ⟨1, by omega, by go_num, Lib.hid trivial⟩
        case measure => simp [intOf]
      · clear hj
        go_wp2
        go_roundw
        case rel => exact ⟨2, by omega, by go_num, Lib.hid trivial⟩
        case measure => simp [intOf]
      · clear hj
        go_wp2
        go_roundw
        case rel => exact ⟨3, by omega, by go_num, Lib.hid trivial⟩
        case measure => simp [intOf]
      · clear hj
        go_wp2
        go_roundw
        case rel => exact ⟨4, by omega, by go_num, Lib.hid trivial⟩
        case measure => simp [intOf]
      · clear hj
        go_wp2
        go_roundw
        case rel => exact ⟨5, by omega, by go_num, Lib.hid trivial⟩
        case measure => simp [intOf]
      · clear hj
        go_wp2
        go_roundw
        case rel => exact ⟨6, by omega, by go_num, Lib.hid trivial⟩
        case measure => simp [intOf]
      · clear hj
        go_wp2
        go_ret
        exact ⟨rfl, HB.out⟩
  · have e : rankV 0 = 7 := rfl
    rw [e]
    go_enter Tryz.func60, Tryz.ntmps60
    go_wp2
    go_loopw [4] (fun i W => ∃ j : Nat, j ≤ 7 ∧ i = .int .i64 (j : Int) ∧ Hid (W = w.alloc (.cells #[.int .i64 5, .int .i64 6, .int .i64 7, .int .i64 4, .int .i64 3, .int .i64 1, .int .i64 2, .int .i64 0] 22))) (fun i _ => 8 - (intOf i).toNat)
    case atStart => exact ⟨0, Nat.zero_le _, rfl, Lib.hid rfl⟩
    case round =>
      obtain ⟨j, hj, rfl, HW⟩ := hrel
      have hW := HW.out
      subst hW
      clear HW
      obtain ⟨c0, c1, c2, c3, c4, c5, c6, c7⟩ := HC.out
      have hjj : j = 0 ∨ j = 1 ∨ j = 2 ∨ j = 3 ∨ j = 4 ∨ j = 5 ∨ j = 6 ∨ j = 7 := by omega
      rcases hjj with rfl | rfl | rfl | rfl | rfl | rfl | rfl | rfl
      · clear hj
        go_wp2
        go_roundw
        case rel => exact ⟨1, by omega, by go_num, Lib.hid trivial⟩
        case measure => simp [intOf]
      · clear hj
        go_wp2
        go_roundw
        case rel => exact ⟨2, by omega, by go_num, Lib.hid trivial⟩
        case measure => simp [intOf]
      · clear hj
        go_wp2
        go_roundw
        case rel => exact ⟨3, by omega, by go_num, Lib.hid trivial⟩
        case measure => simp [intOf]
      · clear hj
        go_wp2
        go_roundw
        case rel => exact ⟨4, by omega, by go_num, Lib.hid trivial⟩
        case measure => simp [intOf]
      · clear hj
        go_wp2
        go_roundw
        case rel => exact ⟨5, by omega, by go_num, Lib.hid trivial⟩
        case measure => simp [intOf]
      · clear hj
        go_wp2
        go_roundw
        case rel => exact ⟨6, by omega, by go_num, Lib.hid trivial⟩
        case measure => simp [intOf]
      · clear hj
        go_wp2
        go_roundw
        case rel => exact ⟨7, by omega, by go_num, Lib.hid trivial⟩
        case measure => simp [intOf]
      · clear hj
        go_wp2
        go_ret
        exact ⟨rfl, HB.out⟩
end Go.Proofs.YtnkaegdnjfpliaaGreatDoor
