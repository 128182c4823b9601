/- The law's `vast` and `fill`, and the document's `Padded`, `Half`, `Number`. -/
import Derived.Test.YtfpmdagchbbkcaaOpen
import Derived.Test.YtfpmdagchbbkcaaStrb
namespace Go.Proofs.Ytfpmdagchbbkcaa
open Go.RowKit

theorem ret_bool {a b : Bool} (h : a = b) : Ending.returned (.bool a) = .returned (.bool b) := by rw [h]

/-- Steps lie at a slice: what `vast` asks of them. -/
def StepsAt (w : World) (v : Value) (ls : List (Nat × Nat)) : Prop :=
  ∃ a c, v = .slice a ls.length c ∧ (a = none → ls = []) ∧ ∀ ad, a = some ad → ad.spot = none ∧ ∀ (i : Nat) (p : Nat × Nat), ls[i]? = some p →
    ∃ (s : ByteArray) (q : Option Addr) (m : Nat), w.cell? ⟨ad.block, ad.off + i * 4 + 2, none⟩ = some (.string s) ∧ s.size = p.1 ∧ w.cell? ⟨ad.block, ad.off + i * 4 + 3, none⟩ = some (.slice q p.2 m)
def bigStep (p : Nat × Nat) : Bool := decide (3000 < p.1) || decide (40 < p.2)
def vastB (n : Int) (ls : List (Nat × Nat)) : Bool := (decide (12 < n) && decide (n ≤ 65536)) || decide (15 < ls.length) || ls.any bigStep

set_option maxRecDepth 100000 in
set_option maxHeartbeats 1000000 in
theorem vast_any (n : Int) (v : Value) (ls : List (Nat × Nat)) (w : World) (h : StepsAt w v ls) :
    Calls Try.prog 7 #[.int .i64 n, v] w fun e w' => e = .returned (.bool (vastB n ls)) ∧ w = w' := by
  obtain ⟨a, c, rfl, hnil, hcell⟩ := h
  by_cases h1 : 12 < n ∧ n ≤ 65536
  · have e : vastB n ls = true := by simp [vastB, h1]
    have c1 : decide (n > 12) = true := by simp; omega
    have c2 : decide (n ≤ 65536) = true := by simp; omega
    rw [e]
    clear hnil hcell e h1
    go_enter Try.func7, Try.ntmps7
    go_wp2
    go_ret
    exact ⟨rfl, rfl⟩
  · have e1 : (decide (12 < n) && decide (n ≤ 65536)) = false := by
      rw [Bool.and_eq_false_iff, decide_eq_false_iff_not, decide_eq_false_iff_not]; omega
    have hc : decide (n > 12) = false ∨ (decide (n > 12) = true ∧ decide (n ≤ 65536) = false) := by
      rw [decide_eq_false_iff_not, decide_eq_false_iff_not, decide_eq_true_iff]; omega
    clear h1
    by_cases h2 : 15 < ls.length
    · have e : vastB n ls = true := by simp [vastB, h2]
      have c3 : decide ((ls.length : Int) > 15) = true := by simp; omega
      rw [e]
      clear hnil hcell e e1 h2
      rcases hc with c1 | ⟨c1, c2⟩
      all_goals
        go_enter Try.func7, Try.ntmps7
        go_wp2
        go_ret
        exact ⟨rfl, rfl⟩
    · have c3 : decide ((ls.length : Int) > 15) = false := by simp; omega
      have e2 : vastB n ls = ls.any bigStep := by
        have : decide (15 < ls.length) = false := by simp; omega
        simp [vastB, e1, this]
      rw [e2]
      have hlen : ls.length ≤ 15 := by omega
      have HC := Lib.hid (And.intro hnil hcell)
      clear hnil hcell e2 e1 h2
      rcases hc with c1 | ⟨c1, c2⟩
      all_goals
        go_enter Try.func7, Try.ntmps7
        go_wp2
        go_loop [5] (fun i => ∃ k : Nat, k ≤ ls.length ∧ i = .int .i64 (k : Int) ∧ (ls.take k).any bigStep = false) (fun i => ls.length - (intOf i).toNat)
        case atStart => exact ⟨0, Nat.zero_le _, rfl, by simp⟩
        case round =>
          obtain ⟨k, hk, rfl, hany⟩ := hrel
          by_cases hlt : k < ls.length
          · obtain ⟨ad, rfl⟩ : ∃ ad, a = some ad := by
              cases a with
              | none => exact absurd (HC.out.1 rfl) (by intro h; rw [h] at hlt; simp at hlt)
              | some ad => exact ⟨ad, rfl⟩
            obtain ⟨hspot, hcs⟩ := HC.out.2 ad rfl
            obtain ⟨ab, ao, asp⟩ := ad
            simp only at hspot
            subst hspot
            obtain ⟨s, q, m, hc2, hsz, hc3⟩ := hcs k ls[k] (by simp [hlt])
            have htk : (ls.take (k + 1)).any bigStep = ((ls.take k).any bigStep || bigStep ls[k]) := by
              rw [List.take_succ_eq_append_getElem hlt, List.any_append]; simp
            have hin : bigStep ls[k] = true → ls.any bigStep = true := fun h => List.any_eq_true.2 ⟨_, List.getElem_mem hlt, h⟩
            by_cases hs : 3000 < s.size
            · have e : ls.any bigStep = true := hin (by simp [bigStep, ← hsz, hs])
              have k1 : decide ((s.size : Int) > 3000) = true := by simp; omega
              have He := Lib.hid e
              clear htk hin hs hany e hsz hcs
              go_wp2
              go_ret
              exact ⟨ret_bool He.out.symm, rfl⟩
            · have k1 : decide ((s.size : Int) > 3000) = false := by simp; omega
              by_cases hq : 40 < ls[k].2
              · have e : ls.any bigStep = true := hin (by simp [bigStep, hq])
                have k2 : decide ((ls[k].2 : Int) > 40) = true := by simp; omega
                have He := Lib.hid e
                clear htk hin hs hq hany e hsz hcs
                go_wp2
                go_ret
                exact ⟨ret_bool He.out.symm, rfl⟩
              · have k2 : decide ((ls[k].2 : Int) > 40) = false := by simp; omega
                have e : (ls.take (k + 1)).any bigStep = false := by
                  rw [htk, hany]; simp [bigStep, ← hsz]; omega
                have He := Lib.hid e
                clear htk hin hs hq hany e hsz hcs
                go_wp2
                go_round
                case rel => exact ⟨k + 1, by omega, by go_num, He.out⟩
                case measure => simp [intOf]; omega
          · have e : ls.any bigStep = false := by rw [← hany, List.take_of_length_le (by omega)]
            have He := Lib.hid e
            clear e hany
            go_wp2
            go_ret
            exact ⟨ret_bool He.out.symm, rfl⟩
end Go.Proofs.Ytfpmdagchbbkcaa
