/- The law's coming. -/
import Derived.Test.YtmgajgeoibbmjaaSim
namespace Go.Proofs.Ytmgajgeoibbmjaa
open Go.RowKit

/-- Is a step named? -/
def hasF (F : List Int) (n : Int) : Bool := F.contains n
set_option maxRecDepth 100000 in
set_option maxHeartbeats 2000000 in
theorem law_coming {w : World} (q1 q2 q3 : Option Addr) (n1 n2 n3 c1 c2 c3 : Nat) (a : Option Addr) (cx : Nat) (st n : Int) (F : List Int) (hown : w.ownsRow 0 3 1 (.slice a F.length cx) F.length (F.map (.int .i64))) (hF : F.length ≤ 1000000) :
    Calls Try.prog 40 #[.agg #[.slice q1 n1 c1, .slice q2 n2 c2, .slice q3 n3 c3, .slice a F.length cx, .int .i64 st], .int .i64 n] w fun e w' => e = .returned (.bool (hasF F n)) ∧ Below w.heap.size w w' := by
  have hb0 : Below w.heap.size w (w.alloc (.cells #[.slice q1 n1 c1, .slice q2 n2 c2, .slice q3 n3 c3, .slice a F.length cx, .int .i64 st] 33)) := (Below.refl _ _).alloc (Nat.le_refl _) _
  have k3 : (w.alloc (.cells #[.slice q1 n1 c1, .slice q2 n2 c2, .slice q3 n3 c3, .slice a F.length cx, .int .i64 st] 33)).cell? ⟨w.heap.size, 3, none⟩ = some (.slice a F.length cx) := cellOf (heap_alloc_new _ _) rfl
  have hXc : ∀ (j : Nat) (u : Int), F[j]? = some u → ∃ g, a = some ⟨g, 0, none⟩ ∧ (w.alloc (.cells #[.slice q1 n1 c1, .slice q2 n2 c2, .slice q3 n3 c3, .slice a F.length cx, .int .i64 st] 33)).cell? ⟨g, j, none⟩ = some (.int .i64 u) := by
    intro j u hu
    rcases hown.2 with ⟨h, h0⟩ | ⟨g, cap, cur, h, _⟩
    · rw [List.length_eq_zero_iff.1 h0] at hu; simp at hu
    · cases h
      refine ⟨g, rfl, ?_⟩
      have := hown.cells (g := g) rfl j (.int .i64 u) (by simp [hu])
      rw [addr_add, Nat.zero_add] at this
      exact belowCell hb0 (ltOf this) this
  have HX := Lib.hid hXc
  have HB := Lib.hid hb0
  have hF2 : (F.length : Int) ≤ 1000000 := by omega
  clear hXc hown hb0
  go_enter Try.func40, Try.ntmps40
  go_wp2
  go_loop [5] (fun i => ∃ k : Nat, k ≤ F.length ∧ i = .int .i64 (k : Int) ∧ (F.take k).contains n = false) (fun i => F.length - (intOf i).toNat)
  case atStart => exact ⟨0, Nat.zero_le _, rfl, by simp⟩
  case round =>
    obtain ⟨k, hk, rfl, hno⟩ := hrel
    by_cases hlt : k < F.length
    · have hlt2 : k + 1 ≤ F.length := hlt
      obtain ⟨g, rfl, hcell⟩ := HX.out k F[k] (by simp [hlt])
      have htk : (F.take (k + 1)).contains n = ((F.take k).contains n || (n == F[k])) := by
        rw [List.take_succ_eq_append_getElem hlt, List.contains_append, List.contains_cons, List.contains_nil, Bool.or_false]
      have hin : F[k] ∈ F := List.getElem_mem hlt
      generalize F[k] = u at *
      by_cases he : u = n
      · have e : hasF F n = true := by unfold hasF; rw [he] at hin; simpa using hin
        have He := Lib.hid e
        have d1 : (u == n) = true := by simpa using he
        clear htk hin hno e he
        go_wp2
        go_ret
        exact ⟨ret_bool He.out.symm, HB.out⟩
      · have d1 : (u == n) = false := by simpa using he
        have e : (F.take (k + 1)).contains n = false := by rw [htk, hno]; simpa using fun h => he h.symm
        have He := Lib.hid e
        clear htk hin hno e he
        go_wp2
        go_round
        case rel => exact ⟨k + 1, by omega, by go_num, He.out⟩
        case measure => simp [intOf]; omega
    · have e : hasF F n = false := by unfold hasF; rw [← hno, List.take_of_length_le (by omega)]
      have He := Lib.hid e
      clear hno e
      go_wp2
      go_ret
      exact ⟨ret_bool He.out.symm, HB.out⟩
end Go.Proofs.Ytmgajgeoibbmjaa
