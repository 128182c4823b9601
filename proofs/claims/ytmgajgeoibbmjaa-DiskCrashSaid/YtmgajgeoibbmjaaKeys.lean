/- slices.Sorted(maps.Keys(m)) at a map of what was written since. -/
import Derived.Test.YtmgajgeoibbmjaaRng
import Derived.Test.YtmgajgeoibbmjaaRound
import Derived.Test.YtmgajgeoibbmjaaAppend
import Derived.Test.YtmgajgeoibbmjaaShelf
namespace Go.Proofs.Ytmgajgeoibbmjaa
open Go.RowKit

/-- The keys that a map's entries hold. -/
def isKey (es : Array MapEntry) (k : Int) : Prop := (getE es.toList k).isSome = true

set_option maxRecDepth 100000 in
set_option maxHeartbeats 2000000 in
theorem iter_keys (B b : Nat) (es : Array MapEntry) (clk : Nat) (hg : GoodE es.toList clk) :
    Iter Try.prog 51 #[.pointer (some ⟨B, 0, none⟩)] (fun x : Int => #[.int .i64 x])
      (fun pre => pre.Nodup ∧ ∀ k ∈ pre, isKey es k) (fun xs => xs.Nodup ∧ ∀ k, k ∈ xs ↔ isKey es k) 1
      (fun W => W.cell? ⟨B, 0, none⟩ = some (.map (some b)) ∧ W.heap[b]? = some (.map es clk)) := by
  intro L J Jx w hL hpre hkeep hY h0
  refine callsIn_of_wp Try.func51 rfl trivial ?_ rfl
  simp only [Try.ntmps51, List.size_toArray, List.length_cons, List.length_nil, Nat.reduceAdd, Nat.reduceSub, Array.replicate_succ, Array.replicate_zero, List.push_toArray, List.append_toArray, List.nil_append, List.cons_append]
  obtain ⟨hB, hbk⟩ := hpre _ _ h0
  have hIM : IntMap w b (getE es.toList) := ⟨es, clk, hbk, hg, fun _ => rfl⟩
  obtain ⟨w0, hrun, hR0, hB0, hsz0⟩ := rng_start (P := Try.prog) (T := 49) hIM Try.underlying49
  have hJ0 : J [] w0 := hkeep _ _ _ h0 (Nat.le_refl _) (Touch.of_below hB0 (fun x hx hle => absurd hle (by omega)))
  have Hpre := Lib.hid hpre
  have Hkeep := Lib.hid hkeep
  have HY := Lib.hid hY
  have HR0 := Lib.hid (And.intro hR0 (And.intro hJ0 (And.intro hsz0 hL)))
  clear hpre hkeep hY h0 hIM hbk hR0 hJ0 hB0 hsz0 hL
  gi_wp2
  gi_loopw [6] (fun _ wr => ∃ ks, ks.Nodup ∧ Rng wr w.heap.size b (getE es.toList) ks ∧ J ks wr ∧ w.heap.size + 1 ≤ wr.heap.size) (fun _ wr => rngLeft wr w.heap.size b)
  case atStart => exact ⟨[], List.nodup_nil, HR0.out.1, HR0.out.2.1, by have := HR0.out.2.2.1; omega⟩
  case round =>
    obtain ⟨ks, hnd, hR, hJ, hsz⟩ := hrel
    rcases rng_step (P := Try.prog) hR with ⟨hnx, hall⟩ | ⟨k, v, w1, hnx, hv, hk, hR1, hT1, hsz1, hlt, hen⟩
    · have hks : ∀ k, k ∈ ks ↔ isKey es k := fun k => ⟨fun h => by
        obtain ⟨_, _, _, _, _, _, _, _, h6, _⟩ := hR
        exact h6 k h, fun h => hall k h⟩
      have Hf := Lib.hid (And.intro hnd (And.intro hks hJ))
      clear hnd hR hJ hall hks
      gi_wp2
      go_end0
      exact ⟨rfl, .inl ⟨_, ⟨Hf.out.1, Hf.out.2.1⟩, Hf.out.2.2⟩⟩
    · have hJ1 : J ks w1 := Hkeep.out _ _ _ hJ (by omega) (hT1.mono (fun x hx he => by subst he; omega))
      have hnd1 : (ks ++ [k]).Nodup := List.nodup_append.2 ⟨hnd, by simp, by intro x hx y hy; simp at hy; subst hy; intro e; subst e; exact hk hx⟩
      have hok : (ks ++ [k]).Nodup ∧ ∀ j ∈ ks ++ [k], isKey es j := ⟨hnd1, fun j hj => by
        obtain ⟨_, _, _, _, _, _, _, _, h6, _⟩ := hR1
        exact h6 j hj⟩
      obtain ⟨fn, tmps, assign, body, hy, hRd⟩ := HY.out ks k w1 hok hJ1 (by omega)
      have hen1 := hen w1 hR1
      have H1 := Lib.hid (And.intro hR1 (And.intro hsz1 (And.intro hlt (And.intro hnd1 (Hpre.out _ _ hJ1)))))
      clear hen hR1 hsz1 hlt hok hnd1 hJ1 hnd hR hJ hT1 hk hv
      gi_wp2
      refine ⟨rfl, hRd.mono ?_⟩
      rintro e W3 ⟨hfix, hsz3, ⟨rfl, hJ3⟩ | ⟨rfl, hJx3⟩⟩
      · have hb3 := (Hpre.out _ _ hJ3).2
        have hR3 : Rng W3 w.heap.size b (getE es.toList) (ks ++ [k]) ∧ rngLeft W3 w.heap.size b = rngLeft w1 w.heap.size b := by
          have hr := hfix w.heap.size (Nat.le_refl _) (by omega)
          obtain ⟨es', clk', seen, q1, q2, q3⟩ := H1.out.1
          have hb1 := H1.out.2.2.2.2.2
          have hq1 := q1
          rw [hb1] at hq1
          cases hq1
          refine ⟨⟨es, clk, seen, hb3, by rw [hr]; exact q2, q3⟩, ?_⟩
          unfold rngLeft
          rw [hr, hb3, hb1, q2]
        have H3 := Lib.hid (And.intro hR3 hJ3)
        clear hb3 hR3 hJ3 hfix
        gi_wp2
        go_roundw
        case rel => exact ⟨_, H1.out.2.2.2.1, H3.out.1.1, H3.out.2, by have := H1.out.2.1; omega⟩
        case measure => rw [H3.out.1.2]; exact H1.out.2.2.1
      · clear hfix
        gi_wp2
        refine bodyPost_ret (results_none rfl _ _ _) rfl ?_
        exact ⟨rfl, .inr hJx3⟩

/-- maps.Keys: the closure that captures the map. -/
theorem keys_any (q : Option Nat) (w : World) :
    Calls Try.prog 34 #[.map q] w fun e w' => e = .returned (.func (.func 51) #[] #[.pointer (some ⟨w.heap.size, 0, none⟩)]) ∧ w' = w.alloc (.cells #[.map q] 49) := by
  go_enter Try.func34, Try.ntmps34
  go_wp2
  go_ret
  exact ⟨rfl, rfl⟩
end Go.Proofs.Ytmgajgeoibbmjaa
