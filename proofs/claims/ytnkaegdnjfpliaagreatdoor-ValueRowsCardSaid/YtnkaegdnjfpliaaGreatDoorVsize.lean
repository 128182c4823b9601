/- The law's own small functions: num, size, small, nothing. -/
import Derived.Test.YtnkaegdnjfpliaaGreatDoorVbare
import Derived.Test.YtnkaegdnjfpliaaGreatDoorVcopy
namespace Go.Proofs.YtnkaegdnjfpliaaGreatDoor
set_option linter.unusedSimpArgs false
set_option linter.unusedVariables false
open Go.RowKit

theorem num_any (n : Int) (w : World) : Calls Tryz.prog 33 #[.int .i64 n] w fun e w' => e = .returned (.int .i64 n) ∧ w = w' := by
  go_enter Tryz.func33, Tryz.ntmps33
  go_wp2
  go_ret
  exact ⟨rfl, rfl⟩
/-- What size tells, as far as it is asked. -/
def SizeOk (left tot r : Nat) : Prop := (tot ≤ left → r = tot) ∧ (left < tot → left < r) ∧ r ≤ left + 281474976710657
def keySum (ks : List (List UInt8)) : Nat := (ks.map List.length).sum
theorem keySum_step {ks : List (List UInt8)} {j : Nat} (h : j < ks.length) : keySum (ks.take (j + 1)) = keySum (ks.take j) + ks[j].length := by
  unfold keySum; rw [List.take_succ_eq_append_getElem h, List.map_append, List.sum_append]; simp
theorem keySum_le (ks : List (List UInt8)) (j : Nat) : keySum (ks.take j) ≤ keySum ks := by
  have e : ks.take j ++ ks.drop j = ks := List.take_append_drop _ _
  have := congrArg keySum e
  unfold keySum at *
  rw [List.map_append, List.sum_append] at this
  omega
theorem totVs_step {l : List V} {j : Nat} (h : j < l.length) : totVs (l.take (j + 1)) = totVs (l.take j) + totV l[j] := by
  rw [List.take_succ_eq_append_getElem h, totVs_append]; simp [totVs]
theorem totVs_le (l : List V) (j : Nat) : totVs (l.take j) ≤ totVs l := by
  have e : l.take j ++ l.drop j = l := List.take_append_drop _ _
  have := congrArg totVs e
  rw [totVs_append] at this
  omega
set_option maxRecDepth 100000 in
set_option maxHeartbeats 8000000 in
theorem size_any : ∀ (v : V) (left : Nat), left ≤ 2000 → ∀ (w : World) (x : Array Value), VRd w v x →
    Calls Tryz.prog 58 #[.agg x, .int .i64 (left : Int)] w fun e w' => (∃ r : Nat, e = .returned (.int .i64 (r : Int)) ∧ SizeOk left (totV v) r) ∧ Below w.heap.size w w' := by
  refine V.ind fun k b n t ks l ih => ?_
  intro left hle w x hx
  rw [totV_mk]
  obtain ⟨pk, ck, pl, cl, rfl, htx, hk1, hl1⟩ := VRd_iff.1 hx
  have hT := OneB.start w #[.int .i64 k, .bool b, .int .i64 n, .string (strB t), .slice pk ks.length ck, .slice pl l.length cl]
  have z1 : (ks.length : Int) ≤ 140737488355328 := by have := hk1.2.1.1; omega
  have z2 : (l.length : Int) ≤ 140737488355328 := by have := hl1.1.2.1.1; omega
  have z3 : (t.length : Int) ≤ 140737488355328 := by omega
  have z4 : (left : Int) ≤ 2000 := by omega
  have hst : (strB t).size = t.length := rfl
  have HI := Lib.hid (fun (a : V) (ha : a ∈ l) => ih a ha)
  have HK := Lib.hid hk1
  have HL := Lib.hid hl1
  have HT := Lib.hid hT
  clear ih hx hk1 hl1 hT hle
  go_enter Tryz.func58, Tryz.ntmps58
  go_wp2
  go_loopw [5, 6] (fun m i W => ∃ j nn : Nat, j ≤ ks.length ∧ i = .int .i64 (j : Int) ∧ m = .int .i64 (nn : Int) ∧ nn ≤ left + 281474976710657 ∧ Hid (nn = 1 + t.length + ks.length + keySum (ks.take j)) ∧ Hid (OneB w W #[.int .i64 k, .bool b, .int .i64 n, .string (strB t), .slice pk ks.length ck, .slice pl l.length cl])) (fun _ i _ => ks.length - (intOf i).toNat)
  case atStart =>
    exact ⟨0, 1 + t.length + ks.length, Nat.zero_le _, rfl, by go_num, by omega, Lib.hid (by simp [keySum]), HT⟩
  case round =>
    obtain ⟨j, nn, hj, rfl, rfl, hnb, HS, HT2⟩ := hrel
    clear HT
    have p4 := cellOf (o := 4) HT2.out.1 rfl
    have z5 : (nn : Int) ≤ 281474976712657 := by omega
    by_cases hlt : j < ks.length
    · have hlt1 : j + 1 ≤ ks.length := hlt
      by_cases hle : nn ≤ left
      · have hle1 : (nn : Int) ≤ (left : Int) := by omega
        obtain ⟨bk, ok, rfl, q0, hsl⟩ := (HK.out.below HT2.out.2).get hlt
        have hstep := keySum_step hlt
        generalize ks[j] = kk at *
        have hszk : (strB kk).size = kk.length := rfl
        have z6 : (kk.length : Int) ≤ 140737488355328 := by omega
        have HF := Lib.hid (And.intro hstep HS.out)
        clear hstep HS
        go_wp2
        go_roundw
        case rel => exact ⟨j + 1, nn + kk.length, hlt1, by go_num, by go_num, by omega, Lib.hid (by have := HF.out.1; have := HF.out.2; omega), HT2⟩
        case measure => simp [intOf]; omega
      · have hle1 : ¬ (nn : Int) ≤ (left : Int) := by omega
        have hle0 : decide ((nn : Int) ≤ (left : Int)) = false := by simpa using hle1
        have hsum := keySum_le ks j
        have HF := Lib.hid (And.intro hsum (And.intro HS.out hle))
        clear hsum HS
        go_wp2
        go_loopw [5, 7] (fun m i W => ∃ j2 n2 : Nat, j2 ≤ l.length ∧ i = .int .i64 (j2 : Int) ∧ m = .int .i64 (n2 : Int) ∧ n2 ≤ left + 281474976710657 ∧ Hid ((1 + t.length + ks.length + keySum ks + totVs (l.take j2) ≤ left → n2 = 1 + t.length + ks.length + keySum ks + totVs (l.take j2)) ∧ (left < 1 + t.length + ks.length + keySum ks + totVs (l.take j2) → left < n2)) ∧ Hid (OneB w W #[.int .i64 k, .bool b, .int .i64 n, .string (strB t), .slice pk ks.length ck, .slice pl l.length cl])) (fun _ i _ => l.length - (intOf i).toNat)
        case atStart => exact ⟨0, nn, Nat.zero_le _, rfl, rfl, hnb, Lib.hid (by
          have h := HF.out
          rw [List.take_zero]
          simp only [totVs]
          exact ⟨fun h2 => by omega, fun _ => by omega⟩), HT2⟩
        case round =>
          clear p4 HT2 HF hnb z5
          obtain ⟨j2, n2, hj2, rfl, rfl, hnb2, HQ, HT3⟩ := hrel
          have p5 := cellOf (o := 5) HT3.out.1 rfl
          have z6 : (n2 : Int) ≤ 281474976712657 := by omega
          by_cases hlt2 : j2 < l.length
          · have hlt3 : j2 + 1 ≤ l.length := hlt2
            by_cases hle2 : n2 ≤ left
            · have hle3 : (n2 : Int) ≤ (left : Int) := by omega
              obtain ⟨g1, o1, pk1, ck1, pl1, cl1, rfl, ⟨a0, a1, a2, a3, a4, a5⟩, hv1⟩ := (HL.out.below HT3.out.2).at hlt2
              have hstep := totVs_step hlt2
              have hsub : ((left : Int) - (n2 : Int)) = ((left - n2 : Nat) : Int) := by omega
              have hcall := HI.out l[j2] (List.getElem_mem hlt2) (left - n2) (by omega) wr _ hv1
              rw [← hsub] at hcall
              generalize l[j2] = s1 at *
              have HD := Lib.hid (And.intro hcall (And.intro hstep (And.intro HQ.out HT3.out)))
              clear hcall hstep hv1 hsub
              go_wp2_with (go_at_call 58
                           (
                             refine HD.out.1.mono ?_
                             rintro e w3 ⟨⟨r, rfl, hr⟩, hb3⟩
                             have HG := Lib.hid (And.intro hr (HD.out.2.2.2.below hb3))
                             have z7 : (r : Int) ≤ 281474976712657 := by have := hr.2.2; omega
                             clear hr hb3))
              go_roundw
              case rel =>
                obtain ⟨⟨h1, h2, h3⟩, hT4⟩ := HG.out
                obtain ⟨_, hstep, ⟨g1, g2⟩, _⟩ := HD.out
                refine ⟨j2 + 1, n2 + r, hlt3, by go_num, by go_num, by omega, Lib.hid ⟨fun h => ?_, fun h => ?_⟩, Lib.hid hT4⟩
                · rw [hstep] at h ⊢
                  have e1 := g1 (by omega)
                  have e2 := h1 (by omega)
                  omega
                · rw [hstep] at h
                  by_cases hc : 1 + t.length + ks.length + keySum ks + totVs (l.take j2) ≤ left
                  · have e1 := g1 hc
                    have e2 := h2 (by omega)
                    omega
                  · have := g2 (by omega); omega
              case measure => simp [intOf]; omega
            · have hle3 : ¬ (n2 : Int) ≤ (left : Int) := by omega
              have hle4 : decide ((n2 : Int) ≤ (left : Int)) = false := by simpa using hle3
              have hsum := totVs_le l j2
              have HF2 := Lib.hid (And.intro HQ.out (And.intro hsum (And.intro HT3.out.2 hle2)))
              clear hsum
              go_wp2
              go_ret
              obtain ⟨⟨g1, g2⟩, hsum, hbb, hgt⟩ := HF2.out
              refine ⟨⟨n2, rfl, ⟨fun h => ?_, fun h => by omega, hnb2⟩⟩, hbb⟩
              exact absurd (g1 (by unfold keySum; omega)) (by unfold keySum; omega)
          · obtain rfl : j2 = l.length := by omega
            have HF2 := Lib.hid (And.intro HQ.out HT3.out.2)
            go_wp2
            go_ret
            obtain ⟨⟨g1, g2⟩, hbb⟩ := HF2.out
            rw [List.take_length] at g1 g2
            exact ⟨⟨n2, rfl, ⟨g1, g2, hnb2⟩⟩, hbb⟩
    · obtain rfl : j = ks.length := by omega
      have HF := Lib.hid HS.out
      clear HS
      go_wp2
      go_loopw [5, 7] (fun m i W => ∃ j2 n2 : Nat, j2 ≤ l.length ∧ i = .int .i64 (j2 : Int) ∧ m = .int .i64 (n2 : Int) ∧ n2 ≤ left + 281474976710657 ∧ Hid ((1 + t.length + ks.length + keySum ks + totVs (l.take j2) ≤ left → n2 = 1 + t.length + ks.length + keySum ks + totVs (l.take j2)) ∧ (left < 1 + t.length + ks.length + keySum ks + totVs (l.take j2) → left < n2)) ∧ Hid (OneB w W #[.int .i64 k, .bool b, .int .i64 n, .string (strB t), .slice pk ks.length ck, .slice pl l.length cl])) (fun _ i _ => l.length - (intOf i).toNat)
      case atStart => exact ⟨0, nn, Nat.zero_le _, rfl, rfl, hnb, Lib.hid (by
        have h := HF.out
        rw [List.take_zero]
        simp only [totVs]
        rw [List.take_length] at h; exact ⟨fun h2 => by omega, fun _ => by omega⟩), HT2⟩
      case round =>
        clear p4 HT2 HF hnb z5
        obtain ⟨j2, n2, hj2, rfl, rfl, hnb2, HQ, HT3⟩ := hrel
        have p5 := cellOf (o := 5) HT3.out.1 rfl
        have z6 : (n2 : Int) ≤ 281474976712657 := by omega
        by_cases hlt2 : j2 < l.length
        · have hlt3 : j2 + 1 ≤ l.length := hlt2
          by_cases hle2 : n2 ≤ left
          · have hle3 : (n2 : Int) ≤ (left : Int) := by omega
            obtain ⟨g1, o1, pk1, ck1, pl1, cl1, rfl, ⟨a0, a1, a2, a3, a4, a5⟩, hv1⟩ := (HL.out.below HT3.out.2).at hlt2
            have hstep := totVs_step hlt2
            have hsub : ((left : Int) - (n2 : Int)) = ((left - n2 : Nat) : Int) := by omega
            have hcall := HI.out l[j2] (List.getElem_mem hlt2) (left - n2) (by omega) wr _ hv1
            rw [← hsub] at hcall
            generalize l[j2] = s1 at *
            have HD := Lib.hid (And.intro hcall (And.intro hstep (And.intro HQ.out HT3.out)))
            clear hcall hstep hv1 hsub
            go_wp2_with (go_at_call 58
                         (
                           refine HD.out.1.mono ?_
                           rintro e w3 ⟨⟨r, rfl, hr⟩, hb3⟩
                           have HG := Lib.hid (And.intro hr (HD.out.2.2.2.below hb3))
                           have z7 : (r : Int) ≤ 281474976712657 := by have := hr.2.2; omega
                           clear hr hb3))
            go_roundw
            case rel =>
              obtain ⟨⟨h1, h2, h3⟩, hT4⟩ := HG.out
              obtain ⟨_, hstep, ⟨g1, g2⟩, _⟩ := HD.out
              refine ⟨j2 + 1, n2 + r, hlt3, by go_num, by go_num, by omega, Lib.hid ⟨fun h => ?_, fun h => ?_⟩, Lib.hid hT4⟩
              · rw [hstep] at h ⊢
                have e1 := g1 (by omega)
                have e2 := h1 (by omega)
                omega
              · rw [hstep] at h
                by_cases hc : 1 + t.length + ks.length + keySum ks + totVs (l.take j2) ≤ left
                · have e1 := g1 hc
                  have e2 := h2 (by omega)
                  omega
                · have := g2 (by omega); omega
            case measure => simp [intOf]; omega
          · have hle3 : ¬ (n2 : Int) ≤ (left : Int) := by omega
            have hle4 : decide ((n2 : Int) ≤ (left : Int)) = false := by simpa using hle3
            have hsum := totVs_le l j2
            have HF2 := Lib.hid (And.intro HQ.out (And.intro hsum (And.intro HT3.out.2 hle2)))
            clear hsum
            go_wp2
            go_ret
            obtain ⟨⟨g1, g2⟩, hsum, hbb, hgt⟩ := HF2.out
            refine ⟨⟨n2, rfl, ⟨fun h => ?_, fun h => by omega, hnb2⟩⟩, hbb⟩
            exact absurd (g1 (by unfold keySum; omega)) (by unfold keySum; omega)
        · obtain rfl : j2 = l.length := by omega
          have HF2 := Lib.hid (And.intro HQ.out HT3.out.2)
          go_wp2
          go_ret
          obtain ⟨⟨g1, g2⟩, hbb⟩ := HF2.out
          rw [List.take_length] at g1 g2
          exact ⟨⟨n2, rfl, ⟨g1, g2, hnb2⟩⟩, hbb⟩
set_option maxRecDepth 100000 in
set_option maxHeartbeats 4000000 in
theorem small_any {w : World} {p : Option Addr} {c : Nat} {l : List V} (hl : LRd w p c l) :
    Calls Tryz.prog 15 #[.slice p l.length c] w fun e w' => e = .returned (.bool (decide (totVs l ≤ 2000))) ∧ Below w.heap.size w w' := by
  have z2 : (l.length : Int) ≤ 140737488355328 := by have := hl.1.2.1.1; omega
  have HL := Lib.hid hl
  clear hl
  go_enter Tryz.func15, Tryz.ntmps15
  go_wp2
  go_loopw [3, 4] (fun m i W => ∃ j nn : Nat, j ≤ l.length ∧ i = .int .i64 (j : Int) ∧ m = .int .i64 (nn : Int) ∧ nn ≤ 281474976714657 ∧ Hid ((totVs (l.take j) ≤ 2000 → nn = totVs (l.take j)) ∧ (2000 < totVs (l.take j) → 2000 < nn)) ∧ Hid (Below w.heap.size w W)) (fun _ i _ => l.length - (intOf i).toNat)
  case atStart => exact ⟨0, 0, Nat.zero_le _, rfl, rfl, by omega, Lib.hid ⟨fun _ => by simp [totVs], fun h => by simp [totVs] at h⟩, Lib.hid (Below.refl _ _)⟩
  case round =>
    obtain ⟨j, nn, hj, rfl, rfl, hnb, HQ, HB⟩ := hrel
    have z6 : (nn : Int) ≤ 281474976714657 := by omega
    by_cases hlt : j < l.length
    · have hlt1 : j + 1 ≤ l.length := hlt
      by_cases hle : nn ≤ 2000
      · have hle1 : (nn : Int) ≤ 2000 := by omega
        obtain ⟨g1, o1, pk1, ck1, pl1, cl1, rfl, ⟨a0, a1, a2, a3, a4, a5⟩, hv1⟩ := (HL.out.below HB.out).at hlt
        have hstep := totVs_step hlt
        have hcall := size_any l[j] 2000 (by omega) wr _ hv1
        have e2 : ((2000 : Nat) : Int) = 2000 := rfl
        rw [e2] at hcall
        generalize l[j] = s1 at *
        have HD := Lib.hid (And.intro hcall (And.intro hstep (And.intro HQ.out HB.out)))
        clear hcall hstep hv1 e2 HQ HB
        go_wp2_with (go_at_call 58
                     (
                       refine HD.out.1.mono ?_
                       rintro e w3 ⟨⟨r, rfl, hr⟩, hb3⟩
                       have HG := Lib.hid (And.intro hr (below_trans HD.out.2.2.2 hb3))
                       have z7 : (r : Int) ≤ 281474976712657 := by have := hr.2.2; omega
                       clear hr hb3))
        go_roundw
        case rel =>
          obtain ⟨⟨h1, h2, h3⟩, hT4⟩ := HG.out
          obtain ⟨_, hstep, ⟨g1, g2⟩, _⟩ := HD.out
          refine ⟨j + 1, nn + r, hlt1, by go_num, by go_num, by omega, Lib.hid ⟨fun h => ?_, fun h => ?_⟩, Lib.hid hT4⟩
          · rw [hstep] at h ⊢
            have e1 := g1 (by omega)
            have e2 := h1 (by omega)
            omega
          · rw [hstep] at h
            by_cases hc : totVs (l.take j) ≤ 2000
            · have e1 := g1 hc
              by_cases hc2 : totV s1 ≤ 2000
              · have e2 := h1 hc2; omega
              · have := h2 (by omega); omega
            · have := g2 (by omega); omega
        case measure => simp [intOf]; omega
      · have hle1 : ¬ (nn : Int) ≤ 2000 := by omega
        have hle4 : decide ((nn : Int) ≤ 2000) = false := by simpa using hle1
        have hfin : totVs l ≤ 2000 ↔ False := by
          have h := totVs_le l j
          have := HQ.out.1
          constructor
          · intro h2; exact hle (by rw [this (by omega)]; omega)
          · exact False.elim
        have hd : decide (totVs l ≤ 2000) = false := by rw [decide_eq_false_iff_not]; exact fun h => hfin.1 h
        have HD := Lib.hid hd
        clear hfin HQ hd
        go_wp2
        go_ret
        exact ⟨ret_bool HD.out.symm, HB.out⟩
    · obtain rfl : j = l.length := by omega
      have hfin : decide (totVs l ≤ 2000) = decide ((nn : Int) ≤ 2000) := by
        obtain ⟨h1, h2⟩ := HQ.out
        rw [List.take_length] at h1 h2
        rw [decide_eq_decide]
        constructor
        · intro h; rw [h1 h]; omega
        · intro h
          by_cases hc : totVs l ≤ 2000
          · exact hc
          · have := h2 (by omega); omega
      have HF := Lib.hid (And.intro hfin HB.out)
      clear hfin HQ HB
      go_wp2
      go_ret
      exact ⟨ret_bool HF.out.1.symm, HF.out.2⟩
mutual
/-- Is there nothing in a value? -/
def nullV : V → Bool
  | .mk k _ _ _ _ l => nullVs l || k == 0
def nullVs : List V → Bool
  | [] => false
  | a :: r => nullV a || nullVs r
end
theorem nullVs_eq (l : List V) : nullVs l = l.any nullV := by
  induction l with
  | nil => rfl
  | cons a r ih => rw [nullVs, ih]; rfl
set_option maxRecDepth 100000 in
set_option maxHeartbeats 4000000 in
theorem nothing_any : ∀ (v : V) (w : World) (x : Array Value), VRd w v x →
    Calls Tryz.prog 46 #[.agg x] w fun e w' => e = .returned (.bool (nullV v)) ∧ Below w.heap.size w w' := by
  refine V.ind fun k b n t ks l ih => ?_
  intro w x hx
  rw [nullV, nullVs_eq]
  obtain ⟨pk, ck, pl, cl, rfl, htx, hk1, hl1⟩ := VRd_iff.1 hx
  have hT := OneB.start w #[.int .i64 k, .bool b, .int .i64 n, .string (strB t), .slice pk ks.length ck, .slice pl l.length cl]
  have z2 : (l.length : Int) ≤ 140737488355328 := by have := hl1.1.2.1.1; omega
  have HI := Lib.hid (fun (a : V) (ha : a ∈ l) => ih a ha)
  have HL := Lib.hid hl1
  have HT := Lib.hid hT
  clear ih hx hk1 hl1 hT
  go_enter Tryz.func46, Tryz.ntmps46
  go_wp2
  go_loopw [3] (fun i W => ∃ j : Nat, j ≤ l.length ∧ i = .int .i64 (j : Int) ∧ Hid ((l.take j).any nullV = false) ∧ Hid (OneB w W #[.int .i64 k, .bool b, .int .i64 n, .string (strB t), .slice pk ks.length ck, .slice pl l.length cl])) (fun i _ => l.length - (intOf i).toNat)
  case atStart => exact ⟨0, Nat.zero_le _, rfl, Lib.hid rfl, HT⟩
  case round =>
    obtain ⟨j, hj, rfl, HQ, HT2⟩ := hrel
    clear HT
    have p5 := cellOf (o := 5) HT2.out.1 rfl
    by_cases hlt : j < l.length
    · have hlt1 : j + 1 ≤ l.length := hlt
      obtain ⟨g1, o1, pk1, ck1, pl1, cl1, rfl, ⟨a0, a1, a2, a3, a4, a5⟩, hv1⟩ := (HL.out.below HT2.out.2).at hlt
      have htk : (l.take (j + 1)).any nullV = nullV l[j] := by
        rw [List.take_succ_eq_append_getElem hlt, List.any_append, HQ.out]; simp
      have hyes : nullV l[j] = true → l.any nullV = true := fun h => List.any_eq_true.2 ⟨l[j], List.getElem_mem hlt, h⟩
      have hcall := HI.out l[j] (List.getElem_mem hlt) wr _ hv1
      generalize nullV l[j] = on at *
      generalize l[j] = s1 at *
      have HD := Lib.hid (And.intro hcall (And.intro htk (And.intro hyes HT2.out)))
      clear hcall htk hyes hv1 HQ HT2
      cases on with
      | true =>
        go_wp2_with (go_at_call 46
                     (
                       refine HD.out.1.mono ?_
                       rintro e w3 ⟨rfl, hb3⟩
                       have HG := Lib.hid (HD.out.2.2.2.below hb3)
                       clear hb3))
        go_ret
        exact ⟨ret_bool (by rw [HD.out.2.2.1 (by simp)]; rfl), HG.out.2⟩
      | false =>
        go_wp2_with (go_at_call 46
                     (
                       refine HD.out.1.mono ?_
                       rintro e w3 ⟨rfl, hb3⟩
                       have HG := Lib.hid (HD.out.2.2.2.below hb3)
                       clear hb3))
        go_roundw
        case rel => exact ⟨j + 1, hlt1, by go_num, Lib.hid HD.out.2.1, HG⟩
        case measure => simp [intOf]; omega
    · obtain rfl : j = l.length := by omega
      have p0 := cellOf (o := 0) HT2.out.1 rfl
      have HF := Lib.hid (And.intro HQ.out HT2.out.2)
      clear HQ HT2
      by_cases hk : k = 0
      · subst hk
        go_wp2
        go_ret
        exact ⟨ret_bool (by simp), HF.out.2⟩
      · have dk : (k == 0) = false := by simpa using hk
        clear hk
        go_wp2
        go_ret
        exact ⟨ret_bool (by have h := HF.out.1; rw [List.take_length] at h; rw [h, dk]; rfl), HF.out.2⟩
end Go.Proofs.YtnkaegdnjfpliaaGreatDoor
