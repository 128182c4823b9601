/- The law's vast, and DiskNil's walk. -/
import Derived.Test.YtmgajgeoibbmjaaDkn
namespace Go.Proofs.Ytmgajgeoibbmjaa
open Go.RowKit

theorem ret_bool {a b : Bool} (h : a = b) : Ending.returned (.bool a) = .returned (.bool b) := by rw [h]
/-- Steps lie at a slice: what `vast` asks of them: N, how many bytes, how many numbers. -/
def StepsD (w : World) (v : Value) (ls : List (Int × Nat × Nat)) : Prop :=
  ∃ a c, v = .slice a ls.length c ∧ (a = none → ls = []) ∧ ∀ ad, a = some ad → ad.spot = none ∧ ∀ (i : Nat) (p : Int × Nat × Nat), ls[i]? = some p →
    ∃ (q : Option Addr) (m : Nat) (q2 : Option Addr) (m2 : Nat), w.cell? ⟨ad.block, ad.off + i * 5 + 2, none⟩ = some (.int .i64 p.1) ∧ w.cell? ⟨ad.block, ad.off + i * 5 + 3, none⟩ = some (.slice q p.2.1 m) ∧ w.cell? ⟨ad.block, ad.off + i * 5 + 4, none⟩ = some (.slice q2 p.2.2 m2)
def bigD (p : Int × Nat × Nat) : Bool := decide (2048 < p.2.1) || decide (30 < p.2.2) || (decide (100 < p.1) && decide (p.1 < 1099511627776))
def vastD (n : Int) (ls : List (Int × Nat × Nat)) : Bool := (decide (8 < n) && decide (n ≤ 65536)) || decide (25 < ls.length) || ls.any bigD

set_option maxRecDepth 100000 in
set_option maxHeartbeats 2000000 in
theorem vast_any (n : Int) (v : Value) (ls : List (Int × Nat × Nat)) (w : World) (h : StepsD w v ls) :
    Calls Try.prog 6 #[.int .i64 n, v] w fun e w' => e = .returned (.bool (vastD n ls)) ∧ w = w' := by
  obtain ⟨a, c, rfl, hnil, hcell⟩ := h
  by_cases h1 : 8 < n ∧ n ≤ 65536
  · have e : vastD n ls = true := by simp [vastD, h1]
    have c1 : decide (n > 8) = true := by simp; omega
    have c2 : decide (n ≤ 65536) = true := by simp; omega
    rw [e]
    clear hnil hcell e h1
    go_enter Try.func6, Try.ntmps6
    go_wp2
    go_ret
    exact ⟨rfl, rfl⟩
  · have e1 : (decide (8 < n) && decide (n ≤ 65536)) = false := by
      rw [Bool.and_eq_false_iff, decide_eq_false_iff_not, decide_eq_false_iff_not]; omega
    have hc : decide (n > 8) = false ∨ (decide (n > 8) = true ∧ decide (n ≤ 65536) = false) := by
      rw [decide_eq_false_iff_not, decide_eq_false_iff_not, decide_eq_true_iff]; omega
    clear h1
    by_cases h2 : 25 < ls.length
    · have e : vastD n ls = true := by simp [vastD, h2]
      have c3 : decide ((ls.length : Int) > 25) = true := by simp; omega
      rw [e]
      clear hnil hcell e e1 h2
      rcases hc with c1 | ⟨c1, c2⟩
      all_goals
        go_enter Try.func6, Try.ntmps6
        go_wp2
        go_ret
        exact ⟨rfl, rfl⟩
    · have c3 : decide ((ls.length : Int) > 25) = false := by simp; omega
      have e2 : vastD n ls = ls.any bigD := by
        have : decide (25 < ls.length) = false := by simp; omega
        simp [vastD, e1, this]
      rw [e2]
      have hlen : ls.length ≤ 25 := by omega
      have HC := Lib.hid (And.intro hnil hcell)
      clear hnil hcell e2 e1 h2
      rcases hc with c1 | ⟨c1, c2⟩
      all_goals
        go_enter Try.func6, Try.ntmps6
        go_wp2
        go_loop [5] (fun i => ∃ k : Nat, k ≤ ls.length ∧ i = .int .i64 (k : Int) ∧ (ls.take k).any bigD = false) (fun i => ls.length - (intOf i).toNat)
        case atStart => exact ⟨0, Nat.zero_le _, rfl, by simp⟩
        case round =>
          obtain ⟨k, hk, rfl, hany⟩ := hrel
          by_cases hlt : k < ls.length
          · obtain ⟨ad, rfl⟩ : ∃ ad, a = some ad := by
              cases a with
              | none => exact absurd (HC.out.1 rfl) (by intro h; rw [h] at hlt; simp at hlt)
              | some ad => exact ⟨ad, rfl⟩
            obtain ⟨hspot, hcs⟩ := HC.out.2 ad rfl
            obtain ⟨ab, ao, asp⟩ := ad
            simp only at hspot
            subst hspot
            obtain ⟨q, m, q2, m2, hc1, hc2, hc3⟩ := hcs k ls[k] (by simp [hlt])
            have htk : (ls.take (k + 1)).any bigD = ((ls.take k).any bigD || bigD ls[k]) := by
              rw [List.take_succ_eq_append_getElem hlt, List.any_append]; simp
            have hin : bigD ls[k] = true → ls.any bigD = true := fun h => List.any_eq_true.2 ⟨_, List.getElem_mem hlt, h⟩
            generalize ls[k] = p at *
            obtain ⟨pn, pb, pc⟩ := p
            simp only at hc1 hc2 hc3
            by_cases hs : 2048 < pb
            · have e : ls.any bigD = true := hin (by simp [bigD, hs])
              have k1 : decide ((pb : Int) > 2048) = true := by simp; omega
              have He := Lib.hid e
              clear htk hin hs hany e hcs
              go_wp2
              go_ret
              exact ⟨ret_bool He.out.symm, rfl⟩
            · have k1 : decide ((pb : Int) > 2048) = false := by simp; omega
              by_cases hq : 30 < pc
              · have e : ls.any bigD = true := hin (by simp [bigD, hq])
                have k2 : decide ((pc : Int) > 30) = true := by simp; omega
                have He := Lib.hid e
                clear htk hin hs hq hany e hcs
                go_wp2
                go_ret
                exact ⟨ret_bool He.out.symm, rfl⟩
              · have k2 : decide ((pc : Int) > 30) = false := by simp; omega
                by_cases hn1 : 100 < pn
                · have k3 : decide (pn > 100) = true := by simp; omega
                  by_cases hn2 : pn < 1099511627776
                  · have k4 : decide (pn < 1099511627776) = true := by simp; omega
                    have e : ls.any bigD = true := hin (by simp [bigD, hn1, hn2])
                    have He := Lib.hid e
                    clear htk hin hs hq hany e hcs hn1 hn2
                    go_wp2
                    go_ret
                    exact ⟨ret_bool He.out.symm, rfl⟩
                  · have k4 : decide (pn < 1099511627776) = false := by simp; omega
                    have e : (ls.take (k + 1)).any bigD = false := by
                      rw [htk, hany]; simp [bigD]; omega
                    have He := Lib.hid e
                    clear htk hin hs hq hany e hcs hn1 hn2
                    go_wp2
                    go_round
                    case rel => exact ⟨k + 1, by omega, by go_num, He.out⟩
                    case measure => simp [intOf]; omega
                · have k3 : decide (pn > 100) = false := by simp; omega
                  have e : (ls.take (k + 1)).any bigD = false := by
                    rw [htk, hany]; simp [bigD]; omega
                  have He := Lib.hid e
                  clear htk hin hs hq hany e hcs hn1
                  go_wp2
                  go_round
                  case rel => exact ⟨k + 1, by omega, by go_num, He.out⟩
                  case measure => simp [intOf]; omega
          · have e : ls.any bigD = false := by rw [← hany, List.take_of_length_le (by omega)]
            have He := Lib.hid e
            clear e hany
            go_wp2
            go_ret
            exact ⟨ret_bool He.out.symm, rfl⟩

/-! ### DiskNil -/
theorem one_stepD {w : World} {B : Nat} {kd at_ num : Int} {q2 : Option Addr} {m2 c2 : Nat} {q : Option Addr} {m c : Nat} {t : TypeId} {fr : Nat × Nat} (h : w.heap[B]? = some (.cells #[.int .i64 kd, .int .i64 at_, .int .i64 num, .slice q2 m2 c2, .slice q m c] t fr)) : StepsD w (.slice (some ⟨B, 0, none⟩) 1 1) [(num, m2, m)] := by
  refine ⟨some ⟨B, 0, none⟩, 1, rfl, fun h => (by cases h), fun ad had => ?_⟩
  cases had
  refine ⟨rfl, fun i p hp => ?_⟩
  cases i with
  | zero =>
    simp only [List.getElem?_cons_zero, Option.some.injEq] at hp
    subst hp
    exact ⟨q2, c2, q, c, cellOf h rfl, cellOf h rfl, cellOf h rfl⟩
  | succ i => simp at hp

set_option maxRecDepth 100000 in
set_option maxHeartbeats 4000000 in
theorem disk_nil (kd at_ num : Int) (q2 : Option Addr) (m2 c2 : Nat) (q : Option Addr) (m c : Nat) (w : World) :
    Calls Try.prog 5 #[.agg #[.int .i64 kd, .int .i64 at_, .int .i64 num, .slice q2 m2 c2, .slice q m c]] w fun e w' => e = .returned (.bool true) ∧ Below w.heap.size w w' := by
  have hb0 : Below w.heap.size w ((w.alloc (.cells #[.int .i64 kd, .int .i64 at_, .int .i64 num, .slice q2 m2 c2, .slice q m c] 37)).alloc (.cells #[.int .i64 kd, .int .i64 at_, .int .i64 num, .slice q2 m2 c2, .slice q m c] 37)) := ((Below.refl _ _).alloc (Nat.le_refl _) _).alloc (by simp) _
  have hbox : ((w.alloc (.cells #[.int .i64 kd, .int .i64 at_, .int .i64 num, .slice q2 m2 c2, .slice q m c] 37)).alloc (.cells #[.int .i64 kd, .int .i64 at_, .int .i64 num, .slice q2 m2 c2, .slice q m c] 37)).heap[w.heap.size]? = some (.cells #[.int .i64 kd, .int .i64 at_, .int .i64 num, .slice q2 m2 c2, .slice q m c] 37 (0, 0)) := by
    simp only [heap_get_alloc, World.size_alloc]; rw [if_neg (by omega), if_pos trivial]
  have hst : ((w.alloc (.cells #[.int .i64 kd, .int .i64 at_, .int .i64 num, .slice q2 m2 c2, .slice q m c] 37)).alloc (.cells #[.int .i64 kd, .int .i64 at_, .int .i64 num, .slice q2 m2 c2, .slice q m c] 37)).heap[w.heap.size + 1]? = some (.cells #[.int .i64 kd, .int .i64 at_, .int .i64 num, .slice q2 m2 c2, .slice q m c] 37 (0, 0)) := by
    simp only [heap_get_alloc, World.size_alloc]; rw [if_pos trivial]
  have hv0 := vast_any 1 _ _ _ (one_stepD hst)
  generalize vastD 1 [(num, m2, m)] = vb at *
  have Hv := Lib.hid hv0
  have HB := Lib.hid (And.intro hb0 hbox)
  have Hk := Lib.hid known_any
  have HN : Hid (∀ w : World, Calls Try.prog 8 #[.int .i64 1] w fun e w' => ∃ a, e = .returned (.tuple #[.pointer (some ⟨a, 0, none⟩), .int .i64 0]) ∧ Dd w w' a (DM.new 1) ∧ Below w.heap.size w w') := Lib.hid fun w => (Dd.new 1 (by omega) (by omega) w).mono fun e w' h => ⟨_, h⟩
  clear hv0 hst hb0 hbox
  cases vb with
  | true =>
    go_enter Try.func5, Try.ntmps5
    go_wp2_with (first
      | (go_at_call 6; refine Hv.out.mono ?_; rintro e w1 ⟨rfl, rfl⟩)
      | (go_at_call 7; refine (Hk.out _).mono ?_; rintro e w2 ⟨rfl, hb⟩; have HB2 := Lib.hid hb; clear hb))
    go_ret
    exact ⟨rfl, HB.out.1.trans (HB2.out.mono HB.out.1.size)⟩
  | false =>
    have Hnil := Lib.hid (fun (W : World) => (Or.inl rfl : NoD W none))
    have HNN := Lib.hid (fun (W : World) => nothing_any (p := none) (w := W) (.inl rfl) kd at_ num (.slice q2 m2 c2) q m c q2 m2 c2 rfl)
    have HNZ := Lib.hid (fun (W : World) => nothing_any (p := some ⟨W.heap.size, 0, none⟩) (w := W.alloc (.cells #[.int .i64 0, .map none, .map none, .map none, .map none, .int .i64 0] 52)) (.inr ⟨W.heap.size, rfl, cellOf (heap_alloc_new _ _) rfl⟩) kd at_ num (.slice q2 m2 c2) q m c q2 m2 c2 rfl)
    go_enter Try.func5, Try.ntmps5
    go_wp2_with (first
      | (go_at_call 6; refine Hv.out.mono ?_; rintro e w1 ⟨rfl, rfl⟩)
      | (go_at_call 8; refine (HN.out _).mono ?_; rintro e w2 ⟨a, rfl, hd2, hb2⟩
         have HD2 := Lib.hid hd2
         obtain ⟨hb0, hbox⟩ := HB.out
         have hbox2 := belowBlk hb2 (Array.getElem?_eq_some_iff.1 hbox).1 hbox
         have k0 := cellOf (o := 0) hbox2 rfl
         have k1 := cellOf (o := 1) hbox2 rfl
         have k2 := cellOf (o := 2) hbox2 rfl
         have k3 := cellOf (o := 3) hbox2 rfl
         have k4 := cellOf (o := 4) hbox2 rfl
         have H2 := Lib.hid (And.intro hbox2 (hb0.trans (hb2.mono hb0.size)))
         clear hd2 hb2 hb0 hbox hbox2 HN HB)
      | (go_at_call 15; refine (HNN.out _).mono ?_; rintro e w3 ⟨rfl, hb3⟩
         have HD3 := Lib.hid (HD2.out.grow hb3)
         obtain ⟨hbox2, hb2⟩ := H2.out
         have hbox3 := belowBlk hb3 (Array.getElem?_eq_some_iff.1 hbox2).1 hbox2
         have k0' := cellOf (o := 0) hbox3 rfl
         have k1' := cellOf (o := 1) hbox3 rfl
         have k2' := cellOf (o := 2) hbox3 rfl
         have k3' := cellOf (o := 3) hbox3 rfl
         have k4' := cellOf (o := 4) hbox3 rfl
         have H3 := Lib.hid (hb2.trans (hb3.mono hb2.size))
         have hlt3 : w.heap.size < w3.heap.size := (Array.getElem?_eq_some_iff.1 hbox3).1
         clear hb3 hbox2 hb2 hbox3 HNN H2 HD2 k0 k1 k2 k3 k4)
      | (go_at_call 15; refine (HNZ.out _).mono ?_; rintro e w4 ⟨rfl, hb4⟩
         have g4 := ((Below.refl w3.heap.size w3).alloc (Nat.le_refl _) (.cells #[.int .i64 0, .map none, .map none, .map none, .map none, .int .i64 0] 52)).trans (hb4.mono (by simp))
         have HD4 := Lib.hid (HD3.out.grow g4)
         have H4 := Lib.hid (H3.out.trans (g4.mono H3.out.size))
         have HS1 := Lib.hid (same_nn (w := w4) (p := none) (q := none) (.inl rfl) (.inl rfl))
         obtain ⟨⟨F4, hF4, _⟩, _⟩ := HD4.out
         have HS2 := Lib.hid (same_dn (p := none) hF4 (.inl rfl))
         have HS3 := Lib.hid (same_nd (p := none) (.inl rfl) hF4)
         clear hb4 g4 hF4 HNZ HD3)
      | (go_at_call 13; refine HS1.out.mono ?_; rintro e w' ⟨rfl, rfl⟩; clear HS1)
      | (go_at_call 13; refine HS2.out.mono ?_; rintro e w' ⟨rfl, rfl⟩; clear HS2)
      | (go_at_call 13; refine HS3.out.mono ?_; rintro e w' ⟨rfl, rfl⟩; clear HS3)
      | (go_at_call 7; refine (Hk.out _).mono ?_; rintro e w5 ⟨rfl, hb5⟩; have H5 := Lib.hid (H4.out.trans (hb5.mono H4.out.size)); clear hb5))
    go_ret
    exact ⟨rfl, H5.out⟩
end Go.Proofs.Ytmgajgeoibbmjaa
