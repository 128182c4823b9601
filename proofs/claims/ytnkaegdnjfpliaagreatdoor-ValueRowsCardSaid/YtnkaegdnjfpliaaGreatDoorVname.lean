/- value.plain, value.Name. -/
import Derived.Test.YtnkaegdnjfpliaaGreatDoorVmay
import Derived.Test.YtnkaegdnjfpliaaGreatDoorVbld
import Derived.Test.YtnkaegdnjfpliaaGreatDoorVrep
namespace Go.Proofs.YtnkaegdnjfpliaaGreatDoor
set_option linter.unusedSimpArgs false
set_option linter.unusedVariables false
open Go.RowKit

/-- Bytes out of a string, in a block of their own. -/
theorem bytes_of (s : List UInt8) (w : World) : ∃ c w1, (convert 9 68 (.string (strB s))).run Tryz.prog w = .ok (.slice (some ⟨w.heap.size, 0, none⟩) s.length c) w1 ∧ Below w.heap.size w w1 ∧ ∀ j (h : j < s.length), w1.cell? ⟨w.heap.size, j, none⟩ = some (.int .u8 (s[j].toNat : Int)) := by
  have h := run_bytes_of_string (P := Tryz.prog) w 9 68 5 (strB s) Tryz.underlying9 Tryz.underlying68 Tryz.underlying5
  refine ⟨_, _, h, ((Below.refl _ _).drew).alloc (Nat.le_refl _) _, fun j hj => ?_⟩
  have hn := heap_alloc_new w.drew (.cells (bytesRow (strB s) (grownCap w (strB s).size 0 5)) 5 ((bytesRow (strB s) (grownCap w (strB s).size 0 5)).size, (bytesRow (strB s) (grownCap w (strB s).size 0 5)).size + 1))
  exact cellOf hn (bytesRow_at (strB s) _ j hj)
/-- A byte with bit 5 set. -/
theorem bits_or32 (c : UInt8) : bits .or .u8 (c.toNat : Int) 32 = ((c ||| 32).toNat : Int) := by
  have : ∀ n : Fin 256, bits .or .u8 ((UInt8.ofNat n.val).toNat : Int) 32 = (((UInt8.ofNat n.val) ||| 32).toNat : Int) := by decide +kernel
  have h := this ⟨c.toNat, c.toNat_lt⟩
  rwa [UInt8.ofNat_toNat] at h
set_option maxRecDepth 100000 in
theorem letter_or : ∀ c : UInt8, ((decide ((97 : Nat) ≤ (c ||| 32).toNat) && decide ((c ||| 32).toNat ≤ 122)) || c == 95) = letterB c := by
  intro c
  have : ∀ n : Fin 256, ((decide ((97 : Nat) ≤ ((UInt8.ofNat n.val) ||| 32).toNat) && decide (((UInt8.ofNat n.val) ||| 32).toNat ≤ 122)) || (UInt8.ofNat n.val) == 95) = letterB (UInt8.ofNat n.val) := by decide
  have h := this ⟨c.toNat, c.toNat_lt⟩
  rwa [UInt8.ofNat_toNat] at h
theorem plainB_step {s : List UInt8} {j : Nat} (h : j < s.length) (hok : j = 0 ∨ plainB (s.take j) = true) : plainB (s.take (j + 1)) = (letterB s[j] || (decide (0 < j) && digitB s[j])) := by
  cases s with
  | nil => simp at h
  | cons c r =>
    cases j with
    | zero => simp [plainB]
    | succ j =>
      have hj : j < r.length := by simpa using h
      rcases hok with h0 | hok
      · omega
      · simp only [List.take_succ_cons, plainB, Bool.and_eq_true] at hok ⊢
        rw [List.take_succ_eq_append_getElem hj, List.all_append, hok.1, hok.2]
        simp
theorem plainB_take {s : List UInt8} (h : plainB s = true) {j : Nat} (hj : 0 < j) : plainB (s.take j) = true := by
  cases s with
  | nil => simp [plainB] at h
  | cons c r =>
    obtain ⟨i, rfl⟩ : ∃ i, j = i + 1 := ⟨j - 1, by omega⟩
    simp only [List.take_succ_cons, plainB, Bool.and_eq_true] at h ⊢
    refine ⟨h.1, ?_⟩
    rw [List.all_eq_true] at h ⊢
    exact fun x hx => h.2 x (List.mem_of_mem_take hx)
set_option maxRecDepth 100000 in
set_option maxHeartbeats 2000000 in
theorem plain_any (s : List UInt8) (hs : s.length ≤ 140737488355328) (w : World) : Calls Tryz.prog 78 #[.string (strB s)] w fun e w' => e = .returned (.bool (plainB s)) ∧ Below w.heap.size w w' := by
  have z1 : (s.length : Int) ≤ 140737488355328 := by omega
  generalize hP : plainB s = P
  obtain ⟨cc, w1, hcv, hb, hcells⟩ := bytes_of s w
  have HP := Lib.hid hP
  have HB := Lib.hid (And.intro hb hcells)
  have HC := Lib.hid hcv
  have hsz : (strB s).size = s.length := rfl
  clear hP hs hcv hb hcells
  go_enter Tryz.func78, Tryz.ntmps78
  go_wp2_with (refine wpList_run rfl (exec_convert rfl rfl HC.out) ?_)
  go_loopw [9] (fun i W => ∃ j : Nat, j ≤ s.length ∧ i = .int .i64 (j : Int) ∧ Hid (j = 0 ∨ plainB (s.take j) = true) ∧ w1 = W) (fun i _ => s.length - (intOf i).toNat)
  case atStart => exact ⟨0, Nat.zero_le _, rfl, Lib.hid (.inl rfl), rfl⟩
  case round =>
    obtain ⟨j, hj, rfl, HQ, rfl⟩ := hrel
    by_cases hlt : j < s.length
    · have hlt1 : j + 1 ≤ s.length := hlt
      have q0 := HB.out.2 j hlt
      have hst := plainB_step hlt HQ.out
      have hor := bits_or32 s[j]
      rw [← letter_or] at hst
      have h95 : (s[j] == 95) = decide (s[j].toNat = 95) := by
        rw [Bool.eq_iff_iff, beq_iff_eq, decide_eq_true_iff]
        exact ⟨fun h => by rw [h]; rfl, fun h => UInt8.toNat_inj.1 (by rw [h]; rfl)⟩
      rw [h95] at hst
      unfold digitB at hst
      generalize (s[j] ||| 32).toNat = X at *
      generalize s[j].toNat = c at *
      clear h95
      by_cases hx : 97 ≤ X ∧ X ≤ 122
      · have e1 : decide ((97 : Int) ≤ (X : Int)) = true := by simp; omega
        have e2 : decide ((X : Int) ≤ (122 : Int)) = true := by simp; omega
        rw [show decide (97 ≤ X) = true by simp [hx.1], show decide (X ≤ 122) = true by simp [hx.2]] at hst
        simp only [Bool.and_self, Bool.true_or] at hst
        clear hx
        have HS := Lib.hid hst
        clear hst HQ
        go_wp2
        go_roundw
        case rel => exact ⟨j + 1, hlt1, by go_num, Lib.hid (.inr HS.out), trivial⟩
        case measure => simp [intOf]; omega
      · have hxf : (decide (97 ≤ X) && decide (X ≤ 122)) = false := by
          rw [Bool.and_eq_false_iff, decide_eq_false_iff_not, decide_eq_false_iff_not]; omega
        by_cases h97 : 97 ≤ X
        · have e1 : decide ((97 : Int) ≤ (X : Int)) = true := by rw [decide_eq_true_iff]; omega
          have e2 : decide ((X : Int) ≤ (122 : Int)) = false := by rw [decide_eq_false_iff_not]; omega
          clear hx h97
          by_cases h9 : c = 95
          · subst h9
            have hst : plainB (s.take (j + 1)) = true := by rw [hst]; simp
            have HS := Lib.hid hst
            clear hst HQ
            go_wp2
            go_roundw
            case rel => exact ⟨j + 1, hlt1, by go_num, Lib.hid (.inr HS.out), trivial⟩
            case measure => simp [intOf]; omega
          · have d9 : ((c : Int) == 95) = false := by rw [beq_eq_false_iff_ne]; omega
            by_cases j0 : 0 < j
            · have j1 : ((j : Int) == 0) = false := by rw [beq_eq_false_iff_ne]; omega
              by_cases h48 : 48 ≤ c
              · have f1 : decide ((c : Int) < 48) = false := by rw [decide_eq_false_iff_not]; omega
                by_cases h57 : c ≤ 57
                · have f2 : decide ((57 : Int) < (c : Int)) = false := by rw [decide_eq_false_iff_not]; omega
                  have hst : plainB (s.take (j + 1)) = true := by rw [hst]; simp [j0, h48, h57]
                  have HS := Lib.hid hst
                  clear hst HQ
                  go_wp2
                  go_roundw
                  case rel => exact ⟨j + 1, hlt1, by go_num, Lib.hid (.inr HS.out), trivial⟩
                  case measure => simp [intOf]; omega
                · have f2 : decide ((57 : Int) < (c : Int)) = true := by rw [decide_eq_true_iff]; omega
                  have hst : plainB (s.take (j + 1)) = false := by rw [hst, hxf]; simp [h9, h57]
                  have hPf : P = false := by
                    cases hp : P with
                    | false => rfl
                    | true =>
                      have := plainB_take (HP.out.trans hp) (j := j + 1) (by omega)
                      rw [hst] at this; cases this
                  have HN := Lib.hid hPf
                  clear hPf hst HQ
                  go_wp2
                  go_ret
                  exact ⟨ret_bool HN.out.symm, HB.out.1⟩
              · have f1 : decide ((c : Int) < 48) = true := by rw [decide_eq_true_iff]; omega
                have hst : plainB (s.take (j + 1)) = false := by rw [hst, hxf]; simp [h9, h48]
                have hPf : P = false := by
                  cases hp : P with
                  | false => rfl
                  | true =>
                    have := plainB_take (HP.out.trans hp) (j := j + 1) (by omega)
                    rw [hst] at this; cases this
                have HN := Lib.hid hPf
                clear hPf hst HQ
                go_wp2
                go_ret
                exact ⟨ret_bool HN.out.symm, HB.out.1⟩
            · have j1 : ((j : Int) == 0) = true := by rw [beq_iff_eq]; omega
              have hst : plainB (s.take (j + 1)) = false := by rw [hst, hxf]; simp [h9, j0]
              have hPf : P = false := by
                cases hp : P with
                | false => rfl
                | true =>
                  have := plainB_take (HP.out.trans hp) (j := j + 1) (by omega)
                  rw [hst] at this; cases this
              have HN := Lib.hid hPf
              clear hPf hst HQ
              go_wp2
              go_ret
              exact ⟨ret_bool HN.out.symm, HB.out.1⟩
        · have e1 : decide ((97 : Int) ≤ (X : Int)) = false := by rw [decide_eq_false_iff_not]; omega
          clear hx h97
          by_cases h9 : c = 95
          · subst h9
            have hst : plainB (s.take (j + 1)) = true := by rw [hst]; simp
            have HS := Lib.hid hst
            clear hst HQ
            go_wp2
            go_roundw
            case rel => exact ⟨j + 1, hlt1, by go_num, Lib.hid (.inr HS.out), trivial⟩
            case measure => simp [intOf]; omega
          · have d9 : ((c : Int) == 95) = false := by rw [beq_eq_false_iff_ne]; omega
            by_cases j0 : 0 < j
            · have j1 : ((j : Int) == 0) = false := by rw [beq_eq_false_iff_ne]; omega
              by_cases h48 : 48 ≤ c
              · have f1 : decide ((c : Int) < 48) = false := by rw [decide_eq_false_iff_not]; omega
                by_cases h57 : c ≤ 57
                · have f2 : decide ((57 : Int) < (c : Int)) = false := by rw [decide_eq_false_iff_not]; omega
                  have hst : plainB (s.take (j + 1)) = true := by rw [hst]; simp [j0, h48, h57]
                  have HS := Lib.hid hst
                  clear hst HQ
                  go_wp2
                  go_roundw
                  case rel => exact ⟨j + 1, hlt1, by go_num, Lib.hid (.inr HS.out), trivial⟩
                  case measure => simp [intOf]; omega
                · have f2 : decide ((57 : Int) < (c : Int)) = true := by rw [decide_eq_true_iff]; omega
                  have hst : plainB (s.take (j + 1)) = false := by rw [hst, hxf]; simp [h9, h57]
                  have hPf : P = false := by
                    cases hp : P with
                    | false => rfl
                    | true =>
                      have := plainB_take (HP.out.trans hp) (j := j + 1) (by omega)
                      rw [hst] at this; cases this
                  have HN := Lib.hid hPf
                  clear hPf hst HQ
                  go_wp2
                  go_ret
                  exact ⟨ret_bool HN.out.symm, HB.out.1⟩
              · have f1 : decide ((c : Int) < 48) = true := by rw [decide_eq_true_iff]; omega
                have hst : plainB (s.take (j + 1)) = false := by rw [hst, hxf]; simp [h9, h48]
                have hPf : P = false := by
                  cases hp : P with
                  | false => rfl
                  | true =>
                    have := plainB_take (HP.out.trans hp) (j := j + 1) (by omega)
                    rw [hst] at this; cases this
                have HN := Lib.hid hPf
                clear hPf hst HQ
                go_wp2
                go_ret
                exact ⟨ret_bool HN.out.symm, HB.out.1⟩
            · have j1 : ((j : Int) == 0) = true := by rw [beq_iff_eq]; omega
              have hst : plainB (s.take (j + 1)) = false := by rw [hst, hxf]; simp [h9, j0]
              have hPf : P = false := by
                cases hp : P with
                | false => rfl
                | true =>
                  have := plainB_take (HP.out.trans hp) (j := j + 1) (by omega)
                  rw [hst] at this; cases this
              have HN := Lib.hid hPf
              clear hPf hst HQ
              go_wp2
              go_ret
              exact ⟨ret_bool HN.out.symm, HB.out.1⟩
    · obtain rfl : j = s.length := by omega
      have hfin : decide (s ≠ []) = P := by
        have h := HQ.out
        rw [List.take_length] at h
        rw [← HP.out]
        cases s with
        | nil => rfl
        | cons c r =>
          rcases h with h | h
          · simp at h
          · rw [h]; simp
      have HF := Lib.hid hfin
      clear hfin HQ
      go_wp2_with (refine wpList_run (v := .bool (decide (s ≠ []))) rfl (exec_bins rfl rfl rfl (run_neStr _ _ s [] _)) ?_)
      go_ret
      exact ⟨ret_bool (by rw [← HF.out]; simp), HB.out.1⟩
theorem replaceAll_any {w : World} (hE : Env w) (s : List UInt8) (hs : s.length ≤ 2000000) : Calls Tryz.prog 79 #[.string (strB s), .string (strB [96]), .string (strB [96, 96])] w fun e w' => e = .returned (.string (strB (s.flatMap tickB))) ∧ Below w.heap.size w w' := by
  obtain ⟨m, hm⟩ := hE.len
  have h := Tryz.strings_ReplaceAll (strB s) (strB [96]) (strB [96, 96]) m w (by rw [strB_size]; omega) hm (by decide) (by
    have hc : Lib.countB (strB s) (strB [96]) = s.count 96 := Lib.count_one 96 s
    have hl : s.count 96 ≤ s.length := List.count_le_length
    rw [hc, strB_size, strB_size]
    simp only [List.length_cons, List.length_nil]
    omega)
  refine h.mono ?_
  rintro e w' ⟨rfl, hb⟩
  refine ⟨ret_str ?_, hb⟩
  show strB (Lib.replaceAll s [96] [96, 96]) = _
  rw [replaceAll_tick]
theorem tick_len (s : List UInt8) : (s.flatMap tickB).length ≤ 2 * s.length := by
  induction s with
  | nil => simp
  | cons a r ih =>
    rw [List.flatMap_cons, List.length_append, List.length_cons]
    have : (tickB a).length ≤ 2 := by unfold tickB; split <;> simp
    omega
/-- What Name tells. -/
def nameF (s : List UInt8) : List UInt8 := if Lib.validD s then nameB s else []
set_option maxRecDepth 100000 in
set_option maxHeartbeats 2000000 in
theorem name_any {w : World} (hE : Env w) (s : List UInt8) (hs : s.length ≤ 2000000) : Calls Tryz.prog 35 #[.string (strB s)] w fun e w' => e = .returned (.string (strB (nameF s))) ∧ Below w.heap.size w w' := by
  have hv := valid_any hE s (by omega)
  have HR := Lib.hid (show nameF s = if Lib.validD s then nameB s else [] from rfl)
  generalize nameF s = R at *
  generalize Lib.validD s = vd at *
  have HV := Lib.hid hv
  have HP := Lib.hid (fun (W : World) => plain_any s (by omega) W)
  have HA := Lib.hid (fun (W : World) (hb : Below w.heap.size w W) => replaceAll_any (hE.b hb) s hs)
  clear hv hE
  cases vd with
  | false =>
    go_enter Tryz.func35, Tryz.ntmps35
    go_wp2_with (go_at_call 73; refine HV.out.mono ?_; rintro e w1 ⟨rfl, hb1⟩; have HB := Lib.hid hb1; clear hb1)
    go_ret
    exact ⟨ret_str (by rw [HR.out]; rfl), HB.out⟩
  | true =>
    have HN := Lib.hid (show R = if plainB s then s else 96 :: (s.flatMap tickB ++ [96]) from HR.out)
    clear HR
    generalize plainB s = pb at *
    cases pb with
    | true =>
      go_enter Tryz.func35, Tryz.ntmps35
      go_wp2_with (first
        | (go_at_call 73; refine HV.out.mono ?_; rintro e w1 ⟨rfl, hb1⟩; have HB := Lib.hid hb1; clear hb1)
        | (go_at_call 78; refine (HP.out _).mono ?_; rintro e w2 ⟨rfl, hb2⟩; have HB2 := Lib.hid (below_trans HB.out hb2); clear hb2))
      go_ret
      exact ⟨ret_str (by rw [HN.out]; rfl), HB2.out⟩
    | false =>
      have hl : (s.flatMap tickB).length ≤ 4000000 := by have := tick_len s; omega
      have z1 : ((s.flatMap tickB).length : Int) ≤ 4000000 := by omega
      have hsz : (strB (s.flatMap tickB)).size = (s.flatMap tickB).length := rfl
      generalize s.flatMap tickB = ss at *
      go_enter Tryz.func35, Tryz.ntmps35
      go_wp2_with (first
        | (go_at_call 73; refine HV.out.mono ?_; rintro e w1 ⟨rfl, hb1⟩; have HB := Lib.hid hb1; clear hb1)
        | (go_at_call 78; refine (HP.out _).mono ?_; rintro e w2 ⟨rfl, hb2⟩; have HB2 := Lib.hid (below_trans HB.out hb2); clear hb2)
        | (go_at_call 79; refine (HA.out _ HB2.out).mono ?_; rintro e w3 ⟨rfl, hb3⟩; have HB3 := Lib.hid (below_trans HB2.out hb3); clear hb3))
      go_ret
      refine ⟨ret_str ?_, HB3.out⟩
      rw [HN.out, if_neg (by simp)]
      show strB [96] ++ strB ss ++ strB [96] = _
      rw [strB_append, strB_append]
      rfl
end Go.Proofs.YtnkaegdnjfpliaaGreatDoor
