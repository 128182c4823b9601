/- Picks: which are below nought, the next one. -/
import Derived.Test.YtmgajgeoibbmjaaSorted
import Derived.Test.YtmgajgeoibbmjaaCount
namespace Go.Proofs.Ytmgajgeoibbmjaa
open Go.RowKit

def anyNeg (l : List Int) : Bool := l.any fun k => decide (k < 0)

set_option maxRecDepth 100000 in
set_option maxHeartbeats 1000000 in
theorem index_neg (f : FuncId) (hf : f = 30 ∨ f = 46) (p : Option Addr) (n c : Nat) (l : List Int) (w : World) (h : RdI w (.slice p n c) l) (hlen : l.length ≤ 1000000) :
    Calls Try.prog 48 #[.slice p n c, .func (.func f) #[] #[]] w fun e w' => ∃ i : Int, e = .returned (.int .i64 i) ∧ decide (0 ≤ i) = anyNeg l ∧ w = w' := by
  obtain ⟨a, cap, heq, hnil, hcell⟩ := h
  cases heq
  have HC := Lib.hid (And.intro hnil hcell)
  clear hnil hcell
  rcases hf with rfl | rfl
  all_goals
    go_enter Try.func48, Try.ntmps48
    go_wp2
    go_loop [5, 8] (fun _ i => ∃ k : Nat, k ≤ l.length ∧ i = .int .i64 (k : Int) ∧ anyNeg (l.take k) = false) (fun _ i => l.length - (intOf i).toNat)
    case atStart => exact ⟨0, Nat.zero_le _, rfl, by simp [anyNeg]⟩
    case round =>
      obtain ⟨k, hk, rfl, hany⟩ := hrel
      by_cases hlt : k < l.length
      · obtain ⟨ad, rfl⟩ : ∃ ad, p = some ad := by
          cases p with
          | none => have := HC.out.1 rfl; subst this; simp at hlt
          | some ad => exact ⟨ad, rfl⟩
        obtain ⟨hspot, hcs⟩ := HC.out.2 ad rfl
        obtain ⟨ab, ao, asp⟩ := ad
        have hspot := hspot (fun e => by rw [e] at hlt; simp at hlt)
        simp only at hspot
        subst hspot
        have hc := hcs k l[k] (by simp [hlt])
        have htk : anyNeg (l.take (k + 1)) = (anyNeg (l.take k) || decide (l[k] < 0)) := by
          unfold anyNeg; rw [List.take_succ_eq_append_getElem hlt, List.any_append]; simp
        by_cases hx : l[k] < 0
        · have e : anyNeg l = true := List.any_eq_true.2 ⟨_, List.getElem_mem hlt, by simpa using hx⟩
          have c1 : decide (l[k] < 0) = true := by simpa using hx
          have He := Lib.hid e
          clear htk hany e hcs hx
          go_wp2
          go_ret
          exact ⟨k, rfl, by rw [He.out]; simp, rfl⟩
        · have e : anyNeg (l.take (k + 1)) = false := by rw [htk, hany]; simpa using hx
          have c1 : decide (l[k] < 0) = false := by simpa using hx
          have He := Lib.hid e
          clear htk hany e hcs hx
          go_wp2
          go_round
          case rel => exact ⟨k + 1, by omega, by go_num, He.out⟩
          case measure => simp [intOf]; omega
      · have e : anyNeg l = false := by rw [← hany, List.take_of_length_le (by omega)]
        have He := Lib.hid e
        clear e hany
        go_wp2
        go_ret
        exact ⟨-1, rfl, by rw [He.out]; rfl, rfl⟩

set_option maxRecDepth 100000 in
theorem contains_neg (f : FuncId) (hf : f = 30 ∨ f = 46) (p : Option Addr) (n c : Nat) (l : List Int) (w : World) (h : RdI w (.slice p n c) l) (hlen : l.length ≤ 1000000) :
    Calls Try.prog 29 #[.slice p n c, .func (.func f) #[] #[]] w fun e w' => e = .returned (.bool (anyNeg l)) ∧ w = w' := by
  have Hi := Lib.hid (index_neg f hf p n c l w h hlen)
  clear h hlen hf
  go_enter Try.func29, Try.ntmps29
  go_wp2_with (go_at_call 48; refine Hi.out.mono ?_; rintro e w' ⟨i, rfl, hd, rfl⟩; have Hd := Lib.hid hd; clear hd)
  go_ret
  refine ⟨?_, rfl⟩
  have := Hd.out
  show Ending.returned (.bool (decide (i ≥ 0))) = _
  rw [← this]

/-- The next pick. -/
theorem run_tail (p : Option Addr) (n c : Nat) (hn : 1 ≤ n) (hc : n ≤ c) (W : World) :
    (Instr.sliceAt 31 (.slice p n c) ((some 1 : Option Int).map (.int .i64)) ((none : Option Int).map (.int .i64)) none).run Try.prog W = .ok (.slice (if c = 1 then p else p.map (·.add (1 * 1))) (n - 1) (c - 1)) W := by
  rw [run_sliceAt_gen Try.underlying31]
  exact run_slice_gen (P := Try.prog) (e := 3) (s := 1) Try.underlying31 (fun w => Try.sizeOf3 w) p n c (some 1) none 1 n (by simp) (by simp) (by simp) (by simp) hn hc W
end Go.Proofs.Ytmgajgeoibbmjaa
