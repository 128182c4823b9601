/- maps.Copy of blocks. -/
import Derived.Test.YtmgajgeoibbmjaaRng
import Derived.Test.YtmgajgeoibbmjaaWrite
namespace Go.Proofs.Ytmgajgeoibbmjaa
open Go.RowKit

set_option maxRecDepth 100000 in
set_option maxHeartbeats 1000000 in
theorem copy_any {w : World} {bd bs : Nat} {x s : Int → Option (List UInt8)} (hd : IntMap w bd (fun k => (x k).map blkV)) (hs : IntMap w bs (fun k => (s k).map blkV)) (hne : bd ≠ bs) (hl : ∀ k l, s k = some l → l.length = 512) :
    Calls Try.prog 32 #[.map (some bd), .map (some bs)] w fun e w' => e = .returned (.tuple #[]) ∧ IntMap w' bd (fun k => ((s k).or (x k)).map blkV) ∧ Touch (fun b => b = bd) w w' := by
  have hbd := hd.lt
  have hbs := hs.lt
  obtain ⟨w0, hrun, hR0, hB0, hsz0⟩ := rng_start (P := Try.prog) (T := 48) hs Try.underlying48
  have HR0 := Lib.hid (And.intro hR0 (And.intro hB0 (And.intro hsz0 (And.intro hbd hbs))))
  have HD := Lib.hid hd
  have Hl := Lib.hid hl
  have Hne := Lib.hid hne
  clear hR0 hB0 hsz0 hbd hbs hd hs hl hne
  go_enter Try.func32, Try.ntmps32
  go_wp2
  go_loopw [8] (fun _ wr => ∃ ks, Rng wr w.heap.size bs (fun k => (s k).map blkV) ks ∧ IntMap wr bd (fun k => (if k ∈ ks then s k else x k).map blkV) ∧ Touch (fun b => b = bd) w wr) (fun _ wr => rngLeft wr w.heap.size bs)
  case atStart => exact ⟨[], HR0.out.1, by simpa using HD.out.grow HR0.out.2.1, (Touch.refl _ _).grow HR0.out.2.1⟩
  case round =>
    obtain ⟨ks, hR, hD, hT⟩ := hrel
    have hsz : w.heap.size < wr.heap.size := hR.lt
    rcases rng_step (P := Try.prog) hR with ⟨hnx, hall⟩ | ⟨k, v, w1, hnx, hv, hk, hR1, hT1, hsz1, hlt, hen⟩
    · have Hfin : Hid (IntMap wr bd (fun k => ((s k).or (x k)).map blkV) ∧ Touch (fun b => b = bd) w wr) := by
        refine Lib.hid ⟨?_, hT⟩
        have e : (fun k => ((s k).or (x k)).map blkV) = (fun k => (if k ∈ ks then s k else x k).map blkV) := by
          funext k
          by_cases h : k ∈ ks
          · rw [if_pos h]
            obtain ⟨es, clk, seen, _, _, _, _, _, h6, _⟩ := hR
            have := h6 k h
            cases hs : s k with
            | none => rw [hs] at this; cases this
            | some l => rfl
          · rw [if_neg h]
            cases hs : s k with
            | none => rfl
            | some l => exact absurd (hall k (by rw [hs]; rfl)) h
        rw [e]; exact hD
      clear hR hD hT hall
      go_wp2
      go_end0
      exact ⟨rfl, Hfin.out⟩
    · obtain ⟨l, hsl, rfl⟩ : ∃ l, s k = some l ∧ blkV l = v := by
        cases hs : s k with
        | none => rw [hs] at hv; cases hv
        | some l => rw [hs] at hv; exact ⟨l, rfl, Option.some.inj hv⟩
      have hlen := Hl.out k l hsl
      have hBb : Below w1.heap.size w1 (w1.alloc (.cells Try.zeroCells69 69)) := (Below.refl _ _).alloc (Nat.le_refl _) _
      obtain ⟨W1, hst1, hT2, hN1⟩ := run_store_blk (heap_alloc_new w1 (.cells Try.zeroCells69 69)) zero_size hlen
      have hTW : Below w1.heap.size w1 W1 := hT2.below hBb (fun b hb e => by omega) (by simp)
      have hld := run_load_blk hN1 hlen
      have hneq : bd ≠ w.heap.size := by have := HR0.out.2.2.2.1; omega
      have hD1 : IntMap W1 bd (fun k => (if k ∈ ks then s k else x k).map blkV) := (hD.touch hT1 (by exact hneq)).of_heap (hTW.block _ (by have := hD.lt; omega))
      obtain ⟨W2, hup, hT3, hD2, hsz2⟩ := run_mapUpdate_int (P := Try.prog) (T := 48) hD1 Try.underlying48 Try.underlying3 k (blkV l)
      have hR2 : Rng W2 w.heap.size bs (fun k => (s k).map blkV) (ks ++ [k]) := (hR1.below hTW).touch hT3 (by exact fun e => hneq e.symm) (by exact fun e => Hne.out e.symm)
      have hfin : Rng W2 w.heap.size bs (fun k => (s k).map blkV) (ks ++ [k]) ∧ IntMap W2 bd (fun j => (if j ∈ ks ++ [k] then s j else x j).map blkV) ∧ Touch (fun b => b = bd) w W2 ∧ rngLeft W2 w.heap.size bs < rngLeft wr w.heap.size bs := by
        refine ⟨hR2, ?_, ?_, ?_⟩
        · have e : (fun j => (if j ∈ ks ++ [k] then s j else x j).map blkV) = updI (fun k => (if k ∈ ks then s k else x k).map blkV) k (blkV l) := by
            funext j
            unfold updI
            by_cases hj : j = k
            · subst hj; rw [if_pos rfl, if_pos (by simp), hsl]; rfl
            · rw [if_neg hj]
              dsimp only
              by_cases h : j ∈ ks
              · rw [if_pos h, if_pos (by simp [h])]
              · rw [if_neg h, if_neg (by simp [h, hj])]
          rw [e]; exact hD2
        · exact ((hT.step hT1 (fun b hb e => by omega)).grow hTW).step hT3 (fun b hb e => e)
        · rw [(hR1.below hTW).left_touch hT3 (by exact fun e => hneq e.symm) (by exact fun e => Hne.out e.symm)]
          have : rngLeft W1 w.heap.size bs = rngLeft w1 w.heap.size bs := hR1.left_touch (Touch.of_below hTW (S := fun b => w1.heap.size ≤ b) (fun b hb hle => hle)) (by have := hR1.lt; omega) (by have := HR0.out.2.2.2.2; omega)
          rw [this]; exact hlt
      have Hf := Lib.hid hfin
      have Hst := Lib.hid hst1
      have Hld := Lib.hid hld
      clear hld
      have hen1 := hen w1 hR1
      clear hfin hst1 hR2 hD2 hT3 hD1 hTW hN1 hT2 hBb hlen hsl hen hR1 hT1 hsz1 hlt hk hv hR hD hT
      go_wp2_with (first | (refine wpList_store (v := blkV l) rfl 69 _ _ _ rfl rfl rfl Hst.out ?_) | (refine wpList_load rfl 69 _ _ rfl rfl Hld.out ?_))
      go_roundw
      case rel => exact ⟨_, Hf.out.1, Hf.out.2.1, Hf.out.2.2.1⟩
      case measure => exact Hf.out.2.2.2
end Go.Proofs.Ytmgajgeoibbmjaa
