/- The disk: going over bytes block by block. -/
import Derived.Test.YtmgajgeoibbmjaaDisk
import Derived.RegionTactic
namespace Go.Proofs.Ytmgajgeoibbmjaa
open Go.RowKit

/-- The j-th block of bytes. -/
def blkOf (l : List UInt8) (j : Nat) : List UInt8 := (l.drop (512 * j)).take 512
/-- The first k blocks, with the places where they go. -/
def blksAt (at_ : Nat) (l : List UInt8) (k : Nat) : List (Nat × List UInt8) := (List.range k).map fun j => (at_ + j, blkOf l j)
theorem blksAt_succ (at_ : Nat) (l : List UInt8) (k : Nat) : blksAt at_ l (k + 1) = blksAt at_ l k ++ [(at_ + k, blkOf l k)] := by simp [blksAt, List.range_succ]
theorem blkOf_length (l : List UInt8) (m j : Nat) (h : l.length = 512 * m) (hj : j < m) : (blkOf l j).length = 512 := by
  simp only [blkOf, List.length_take, List.length_drop]; omega

theorem zero_size : Try.zeroCells69.size = 512 := by decide +kernel

theorem blocks_any (at_ : Int) (a : Option Addr) (n c : Nat) (w : World) :
    Calls Try.prog 44 #[.int .i64 at_, .slice a n c] w fun e w' =>
      e = .returned (.func (.func 54) #[] #[.pointer (some ⟨w.heap.size + 1, 0, none⟩), .pointer (some ⟨w.heap.size, 0, none⟩)]) ∧
      w' = (w.alloc (.cells #[.int .i64 at_] 3)).alloc (.cells #[.slice a n c] 35) := by
  go_enter Try.func44, Try.ntmps44
  go_wp2
  go_ret
  exact ⟨rfl, rfl⟩

attribute [local go_sem] Oper.semAt_some

set_option maxRecDepth 100000 in
set_option maxHeartbeats 1000000 in
theorem iter_blocks (Bb Ba : Nat) (at_ : Nat) (sv : Value) (l : List UInt8) (m : Nat) (hl : l.length = 512 * m) (hm : m ≤ 1048576) (hat : at_ ≤ 1048576) :
    Iter Try.prog 54 #[.pointer (some ⟨Bb, 0, none⟩), .pointer (some ⟨Ba, 0, none⟩)] (fun x : Nat × List UInt8 => #[.int .i64 (x.1 : Int), blkV x.2])
      (fun pre => ∃ k, k ≤ m ∧ pre = blksAt at_ l k) (fun xs => xs = blksAt at_ l m) 0
      (fun W => W.cell? ⟨Bb, 0, none⟩ = some sv ∧ RdB W sv l ∧ W.cell? ⟨Ba, 0, none⟩ = some (.int .i64 (at_ : Int))) := by
  intro L J Jx w hL hpre hkeep hY h0
  refine callsIn_of_wp Try.func54 rfl trivial ?_ rfl
  refine (wpIn_wide (n := 0)).2 ?_
  simp only [Try.ntmps54, List.size_toArray, List.length_cons, List.length_nil, Nat.reduceAdd, Nat.reduceSub, Array.replicate_succ, Array.replicate_zero, List.push_toArray, List.append_toArray, List.nil_append, List.cons_append]
  obtain ⟨hB, ⟨a, cap, rfl, hn, hs⟩, hA⟩ := hpre _ _ h0
  go_wp2
  go_loopw [4] (fun i wr => ∃ (k : Nat) (v : Int), k ≤ m ∧ i = .int .i64 v ∧ v = 512 * (k : Int) ∧ J (blksAt at_ l k) wr ∧ w.heap.size ≤ wr.heap.size)
    (fun i _ => 512 * m + 1 - (intOf i).toNat)
  case atStart => exact ⟨0, 0, Nat.zero_le _, rfl, rfl, by simpa [blksAt] using h0, Nat.le_refl _⟩
  case round =>
    obtain ⟨k, v, hk, rfl, hv, hJ, hsz⟩ := hrel
    obtain ⟨hB', ⟨a', cap', heq, hn', hs'⟩, hA'⟩ := hpre _ _ hJ
    cases heq
    by_cases hkm : k = m
    · have hlt : ¬ v < (l.length : Int) := by omega
      go_wp2
      go_end0
      exact ⟨rfl, .inl ⟨_, rfl, by rw [← hkm]; exact hJ⟩⟩
    · have hlt : v < (l.length : Int) := by omega
      have hv0 : 0 ≤ v := by omega
      obtain ⟨ad, rfl⟩ : ∃ ad, a = some ad := by
        cases a with
        | none => have := hn.2.2 rfl; omega
        | some ad => exact ⟨ad, rfl⟩
      obtain ⟨hspot, hcell⟩ := hs' ad rfl
      have hspot := hspot (fun e => by rw [e] at hlt; simp at hlt; omega)
      obtain ⟨ab, ao, asp⟩ := ad
      simp only at hspot
      subst hspot
      go_wp2
      have hB2 : Below wr.heap.size wr (wr.alloc (.cells Try.zeroCells69 69)) := (Below.refl _ _).alloc (Nat.le_refl _) _
      have hN : (wr.alloc (.cells Try.zeroCells69 69)).heap[wr.heap.size]? = some (.cells Try.zeroCells69 69 (0, 0)) := heap_alloc_new _ _
      generalize wr.alloc (.cells Try.zeroCells69 69) = W1 at *
      have e1 : W1.cell? ⟨Bb, 0, none⟩ = some (.slice (some ⟨ab, ao, none⟩) (512 * m) cap) := by
        rw [← hl]; exact belowCell hB2 (World.block_lt_of_cell? _ _ hB') hB'
      have hcap : 512 * m ≤ cap := by have := hn.1; omega
      have hcap2 : cap ≤ 9223372036854775807 := by have := hn.2.1; unfold maxLen at this; omega
      have hcap3 : (512 * (k : Int)) ≤ 512 * (m : Int) := by omega
      have hcap4 : (512 * (m : Int)) ≤ (cap : Int) := by omega
      have hne : ¬ cap = 512 * k := by omega
      have hbl := blkOf_length l m k hl (by omega)
      have hsrc : ∀ j v, (bcells (blkOf l k))[j]? = some v → W1.drew.cell? ((⟨ab, ao + 512 * k, none⟩ : Addr).add j) = some v := by
        intro j v hj
        have hadd : (⟨ab, ao + 512 * k, none⟩ : Addr).add j = ⟨ab, ao + (512 * k + j), none⟩ := by unfold Addr.add; split <;> simp_all; omega
        rw [hadd]
        simp only [bcells, List.getElem?_map, Option.map_eq_some_iff] at hj
        obtain ⟨b, hb, rfl⟩ := hj
        have hb' : l[512 * k + j]? = some b := by
          simp only [blkOf, List.getElem?_take, List.getElem?_drop] at hb
          split at hb
          · exact hb
          · cases hb
        have hc := hcell _ _ hb'
        exact belowCell hB2.drew (World.block_lt_of_cell? _ _ hc) hc
      obtain ⟨W2, hcopy, hT2, hN2⟩ : ∃ W2, (Builtin.copy_ #[35, 35] 3 #[.slice (some ⟨wr.heap.size, 0, none⟩) 512 512, .slice (some ⟨ab, ao + 512 * k, none⟩) (512 * m - 512 * k) (cap - 512 * k)]).run Try.prog W1.drew = .ok (.int .i64 512) W2 ∧
          Touch (fun b => b = wr.heap.size) W1 W2 ∧ W2.heap[wr.heap.size]? = some (.cells (bcells (blkOf l k)).toArray 69 (0, 0)) := by
        have hr := run_copy_row (P := Try.prog) W1.drew 35 35 3 5 wr.heap.size 0 512 512 ⟨ab, ao + 512 * k, none⟩ (512 * m - 512 * k) (cap - 512 * k) _ _ (bcells (blkOf l k)) Try.underlying35 (by kernel_rfl) hN
          (by rw [bcells_length, hbl]; simp only [Nat.min_def]; split <;> omega) hsrc (by rw [bcells_length, hbl, zero_size]; omega) (by intro v hv; simp only [bcells, List.mem_map] at hv; obtain ⟨b, _, rfl⟩ := hv; rfl)
        rw [bcells_length, hbl] at hr
        refine ⟨_, hr, ?_, ?_⟩
        · exact ⟨rfl, rfl, rfl, by simp, fun b hb hne => setRow_other _ _ _ _ hne⟩
        · rw [setRow_heap W1.drew _ _ _ _ _ hN]
          have : (Try.zeroCells69.toList.drop (0 + 512)) = [] := List.drop_eq_nil_of_le (by have := zero_size; simp)
          simp [this]
      have hT : Touch (fun _ => False) wr W2 := (Touch.of_below hB2 (fun b hb hle => absurd hb (by omega))).step hT2 (fun b hb e => by omega)
      have hJ2 : J (blksAt at_ l k) W2 := hkeep _ _ _ hJ hsz (hT.mono (fun _ _ h => h.elim))
      have hsz2 : w.heap.size ≤ W2.heap.size := Nat.le_trans hsz hT.size
      have hok : blksAt at_ l k ++ [(at_ + k, blkOf l k)] = blksAt at_ l (k + 1) := (blksAt_succ _ _ _).symm
      have HJ2 := Lib.hid hJ2
      have Hok := Lib.hid hok
      clear hJ2 hok
      clear hpre hs hn hs' hn' hJ hA hB h0 hkeep hsrc hbl
      have HY := Lib.hid hY
      clear hY
      have hsl : ∀ W, (Instr.slice 35 (.slice (some ⟨ab, ao, none⟩) (512 * m) cap) (some (.int .i64 (512 * (k : Int)))) none none).run Try.prog W = .ok (.slice (some ⟨ab, ao + 512 * k, none⟩) (512 * m - 512 * k) (cap - 512 * k)) W := by
        intro W
        have h := run_slice_gen (P := Try.prog) Try.underlying35 Try.sizeOf5 (some ⟨ab, ao, none⟩) (512 * m) cap (some (512 * (k : Int))) none (512 * k) (512 * m) (by simp) (by simp) (by simp) (by simp) (by omega) hcap W
        rw [if_neg hne] at h
        rw [Nat.mul_one] at h
        have hadd : (⟨ab, ao, none⟩ : Addr).add (512 * k) = ⟨ab, ao + 512 * k, none⟩ := by unfold Addr.add; split <;> simp_all
        simpa [hadd] using h
      have e2 : W2.cell? ⟨Bb, 0, none⟩ = some (.slice (some ⟨ab, ao, none⟩) (512 * m) cap) := hT2.cell e1 (by have := ltOf hB'; omega)
      have hsl' : ∀ W, (Instr.sliceAt 35 (.slice (some ⟨ab, ao, none⟩) (512 * m) cap) (some (.int .i64 (512 * (k : Int)))) none none).run Try.prog W = .ok (.slice (some ⟨ab, ao + 512 * k, none⟩) (512 * m - 512 * k) (cap - 512 * k)) W := by
        intro W
        rw [run_sliceAt_gen Try.underlying35]; exact hsl W
      go_region_held3 (fun W => W.cell? ⟨Bb, 0, none⟩ = some (.slice (some ⟨ab, ao, none⟩) (512 * m) cap)) (first | exact e1 | exact e2) (fail)
      have e3 : W2.cell? ⟨Ba, 0, none⟩ = some (.int .i64 (at_ : Int)) := hT2.cell (belowCell hB2 (ltOf hA') hA') (by have := ltOf hA'; omega)
      have hld : (loadVar 69 ⟨wr.heap.size, 0, none⟩).run Try.prog W2 = .ok (blkV (blkOf l k)) W2 :=
        run_loadVar_row W2 wr.heap.size 69 69 _ (0, 0) _ hN2 Try.underlying69 rfl (by rw [List.size_toArray, bcells_length, blkOf_length l m k hl (by omega)]; kernel_rfl)
      have hld' : (Instr.loadAt 69 (.pointer (some ⟨wr.heap.size, 0, none⟩))).run Try.prog W2 = .ok (blkV (blkOf l k)) W2 := by
        simp only [Instr.loadAt, Instr.sureAddr, Sem.run_bind, Sem.run_pure, Result.andThen_ok, hld]
      have hdiv : 512 * (k : Int) / 512 = k := by omega
      have hat2 : (at_ : Int) ≤ 1048576 := by omega
      have hk2 : (k : Int) ≤ 1048576 := by omega
      clear hcopy hsl hsl' hN2 e1
      go_step
      go_step
      refine (wpIn_wide (n := 0)).1 ?_
      obtain ⟨fn, tmps, assign, body, hy, hR⟩ := HY.out (blksAt at_ l k) (at_ + k, blkOf l k) W2 ⟨k + 1, by omega, Hok.out⟩ HJ2.out (by omega)
      simp only [Int.natCast_add] at hy
      gi_wp2_with (refine wpListIn_load (v := blkV (blkOf l k)) (fun _ => trivial) rfl 69 _ _ rfl rfl hld ?_)
      refine ⟨rfl, hR.mono ?_⟩
      rintro e W3 ⟨_, hsz3, ⟨rfl, hJ3⟩ | ⟨rfl, hJx3⟩⟩
      · rw [Hok.out] at hJ3
        have HJ3 := Lib.hid hJ3
        clear hJ3
        gi_wp2
        go_wp2
        go_roundw
        case rel => exact ⟨k + 1, _, by omega, rfl, by omega, HJ3.out, by omega⟩
        case measure => simp [intOf]; omega
      · gi_wp2
        refine bodyPost_ret (results_none rfl _ _ _) rfl ?_
        exact ⟨rfl, .inr hJx3⟩
end Go.Proofs.Ytmgajgeoibbmjaa
