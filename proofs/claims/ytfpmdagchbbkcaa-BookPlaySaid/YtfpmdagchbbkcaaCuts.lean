/- The plain law of a Put that is given up with, and of what a crash leaves of it. No program in sight. -/
import Derived.Test.YtfpmdagchbbkcaaLaw
import Derived.Test.YtfpmdagchbbkcaaCrash
namespace Go.Proofs.Ytfpmdagchbbkcaa
open Go.RowKit

/-- All that was written lasts. -/
def DM.Clean (d : DM) : Prop := (∀ k, d.since k = none) ∧ ∀ k, d.lasting k = d.seen k

/-- What lies on a disk behind a crash. -/
theorem crash_seen (d : DM) (picks : List Int) (k : Int) : (d.crash picks).seen k = d.lasting k ∨ ∃ ls x, d.since k = some ls ∧ x ∈ ls ∧ (d.crash picks).seen k = some x := by
  have key : ∀ (ks : List Int) (s : (Int → Option (List UInt8)) × List Int), (ks.foldl (crashStep d) s).1 k = s.1 k ∨ ∃ ls x, d.since k = some ls ∧ x ∈ ls ∧ (ks.foldl (crashStep d) s).1 k = some x := by
    intro ks
    induction ks with
    | nil => exact fun s => .inl rfl
    | cons j r ih =>
      intro s
      rw [List.foldl_cons]
      rcases ih (crashStep d s j) with h | h
      · rw [h]
        simp only [crashStep]
        by_cases hk : k = j
        · subst hk
          rw [if_pos rfl]
          cases hp : crashPick ((d.since k).getD []) (s.2.headD 0) with
          | none => exact .inl rfl
          | some y =>
            right
            unfold crashPick at hp
            split at hp
            · cases hp
            · cases hs : d.since k with
              | none => rw [hs] at hp; simp at hp
              | some ls => rw [hs] at hp; exact ⟨ls, y, rfl, List.mem_of_getElem? hp, rfl⟩
        · rw [if_neg hk]; exact .inl rfl
      · exact .inr h
  exact key _ _
theorem crash_clean (d : DM) (picks : List Int) : (d.crash picks).Clean := ⟨fun _ => rfl, fun _ => rfl⟩

theorem putE_flags {d : DM} {N : Nat} {l : List UInt8} (h : (putE d N l).2 = false) : d.failing = false ∧ (putA d N l).failing = false ∧ ((putA d N l).flush.1).failing = false ∧ (putC d N l).failing = false ∧ (putE d N l).1 = putD d N l := by
  unfold putE at *
  split at h
  · cases h
  · rename_i h1
    rw [if_neg h1]
    split at h
    · cases h
    · rename_i h2
      rw [if_neg h2]
      split at h
      · cases h
      · rename_i h3
        rw [if_neg h3]
        exact ⟨by simpa using h1, by simpa using h2, by simpa using h3, h, rfl⟩
theorem putE_size (d : DM) (N : Nat) (l : List UInt8) : (putE d N l).1.size = d.size := by
  unfold putE
  split
  · rfl
  · split
    · rw [DM.flush_size]; rfl
    · split
      · unfold putC; rw [DM.write_size, DM.flush_size]; rfl
      · exact put_size N l
theorem putE_seen {d : DM} {N : Nat} {l : List UInt8} (h : (putE d N l).2 = false) (j : Int) : (putE d N l).1.seen j = putSeen d N l j := by
  obtain ⟨h1, h2, h3, h4, h5⟩ := putE_flags h
  rw [h5]
  unfold putD putC
  rw [seen_flush, seen_write h3, seen_flush]
  unfold putA putSeen
  rw [seen_write h1]
  by_cases h : (((N + 1) % 2 : Nat) : Int) = j
  · rw [if_pos h, if_pos (by omega)]
    have e : (j - (((N + 1) % 2 : Nat) : Int)).toNat = 0 := by omega
    rw [e, blk_whole (headB_length _ _)]
  · rw [if_neg h, if_neg (by omega)]
theorem putE_clean {d : DM} {N : Nat} {l : List UInt8} (h : (putE d N l).2 = false) : (putE d N l).1.Clean := by
  obtain ⟨h1, h2, h3, h4, h5⟩ := putE_flags h
  rw [h5]
  unfold putD
  unfold DM.flush
  rw [h4]
  exact ⟨fun _ => rfl, fun _ => rfl⟩
theorem putE_steps {d : DM} {N : Nat} {l : List UInt8} (h : (putE d N l).2 = false) : (putE d N l).1.steps = d.steps + 4 := by
  obtain ⟨h1, h2, h3, h4, h5⟩ := putE_flags h
  rw [h5]
  unfold putD putC
  rw [DM.flush_steps]
  show ((putA d N l).flush.1).steps + 1 + 1 = _
  rw [DM.flush_steps]
  rfl
theorem putE_steps_le (d : DM) (N : Nat) (l : List UInt8) : (putE d N l).1.steps ≤ d.steps + 4 := by
  have hA : (putA d N l).steps = d.steps + 1 := rfl
  have hB : ((putA d N l).flush.1).steps = d.steps + 2 := by rw [DM.flush_steps, hA]
  have hC : (putC d N l).steps = d.steps + 3 := by unfold putC; show ((putA d N l).flush.1).steps + 1 = _; rw [hB]
  have hD : (putD d N l).steps = d.steps + 4 := by unfold putD; rw [DM.flush_steps, hC]
  unfold putE
  split
  · show (putA d N l).steps ≤ _; omega
  · split
    · show ((putA d N l).flush.1).steps ≤ _; omega
    · split
      · show (putC d N l).steps ≤ _; omega
      · show (putD d N l).steps ≤ _; omega
theorem putE_fails (d : DM) (N : Nat) (l : List UInt8) : (putE d N l).1.fails = d.fails := by
  unfold putE
  split
  · rfl
  · split
    · rw [flush_fails]; rfl
    · split
      · unfold putC; rw [write_fails, flush_fails]; rfl
      · unfold putD putC; rw [flush_fails, write_fails, flush_fails]; rfl
theorem looked_best {d : DM} {N : Nat} {old : List UInt8} (h : looked d = some ((N : Int), old)) : (best (heads d 2)).1 = (N : Int) ∧ old = (readB d (plc d N) (hf d)).take (best (heads d 2)).2.toNat ∧ N ≠ 0 := by
  unfold looked at h
  split at h
  · cases h
  · rename_i h0
    simp only [Option.some.injEq, Prod.mk.injEq] at h
    have e : (best (heads d 2)).1.toNat = N := by rw [h.1]; rfl
    refine ⟨h.1, ?_, fun e => h0 (by rw [h.1, e]; rfl)⟩
    rw [← h.2, e]

/-- A Put that is OK. -/
theorem looked_putE {d : DM} (h4 : 4 ≤ d.size) (hmost : d.size ≤ 65536) {N : Nat} (hN : N < 4611686018427387904) {old : List UInt8} (hl0 : looked d = some ((N : Int), old)) (l : List UInt8) (hl : l.length ≤ hf d * 512) (h : (putE d N l).2 = false) :
    looked (putE d N l).1 = some (((N + 1 : Nat) : Int), l) :=
  looked_as h4 hmost (putE_size d N l) N hN (looked_best hl0).1 l hl (putE_seen h)

/-- What agrees on the heads and on the half that counts looks alike. -/
theorem looked_same {d E : DM} {N : Nat} {old : List UInt8} (hsz : E.size = d.size) (hl0 : looked d = some ((N : Int), old)) (hh : ∀ k : Nat, k < 2 → E.seen (k : Int) = d.seen (k : Int))
    (hr : ∀ i : Nat, i < hf d → E.seen ((plc d N + i : Nat) : Int) = d.seen ((plc d N + i : Nat) : Int)) : looked E = some ((N : Int), old) := by
  obtain ⟨h1, h2, h3⟩ := looked_best hl0
  have hhf : hf E = hf d := hf_size hsz
  have hp : plc E N = plc d N := by unfold plc; rw [hhf]
  have hk : ∀ k : Nat, k < 2 → headOf E k = headOf d k := fun k hk => headOf_of_blk (by unfold blkAt; rw [hh k hk]) hsz
  have hb : best (heads E 2) = best (heads d 2) := by rw [heads_two, heads_two, hk 0 (by omega), hk 1 (by omega)]
  unfold looked
  rw [hb, h1, if_neg (by omega), h2]
  have e : ((N : Int)).toNat = N := rfl
  rw [e, hp, hhf]
  congr 2
  refine congrArg (fun x => List.take _ x) ?_
  unfold readB
  refine flatMap_congr' fun i hi => ?_
  rw [hr i (List.mem_range.1 hi)]

theorem plc_apart (d : DM) (N : Nat) (m : Nat) (hm : m ≤ hf d) (i : Nat) (hi : i < hf d) : ¬ ((plc d (N + 1) : Int) ≤ ((plc d N + i : Nat) : Int) ∧ ((plc d N + i : Nat) : Int) < plc d (N + 1) + (m : Nat)) := by
  unfold plc
  rcases Nat.mod_two_eq_zero_or_one N with e | e
  · have e1 : (N + 1) % 2 = 1 := by omega
    rw [e, e1]; omega
  · have e1 : (N + 1) % 2 = 0 := by omega
    rw [e, e1]; omega

theorem padB_blocks (l : List UInt8) (q : Nat) (h : l.length ≤ q * 512) : (padB l).length / 512 ≤ q := by
  have hpl : (padB l).length = l.length + (512 - l.length % 512) % 512 := by simp [padB]
  omega
theorem since_clean {d : DM} (h : ∀ k, d.since k = none) (fails : Bool) (at_ : Nat) (l : List UInt8) (m : Nat) (k : Int) (ls : List (List UInt8)) (hs : (d.stepped.wrote fails at_ l m).since k = some ls) :
    ((at_ : Int) ≤ k ∧ k < at_ + m) ∧ ls = [blkOf l (k - at_).toNat] := by
  change (if (at_ : Int) ≤ k ∧ k < at_ + m then some ((d.since k).getD [] ++ [blkOf l (k - at_).toNat]) else d.since k) = some ls at hs
  rw [h] at hs
  split at hs
  · rename_i hc
    refine ⟨hc, ?_⟩
    simpa using hs.symm
  · cases hs

/-- A Put that is given up with: a crash leaves the old bytes or the new ones; the old ones, if its own half was not flushed. -/
theorem looked_cut {d : DM} (hc : d.Clean) (h4 : 4 ≤ d.size) (hmost : d.size ≤ 65536) {N : Nat} (hN : N < 4611686018427387904) {old : List UInt8} (hl0 : looked d = some ((N : Int), old)) (l : List UInt8) (hl : l.length ≤ hf d * 512) (h : (putE d N l).2 = true) (picks : List Int) :
    looked ((putE d N l).1.crash picks) = some ((N : Int), old) ∨
      (d.failing = false ∧ (putA d N l).failing = false ∧ looked ((putE d N l).1.crash picks) = some (((N + 1 : Nat) : Int), l)) := by
  have hsz : ((putE d N l).1.crash picks).size = d.size := putE_size d N l
  have hpb := padB_blocks l (hf d) hl
  have hp2 := plc_ge d (N + 1)
  have hp2' := plc_ge d N
  have hph : ∀ i, i < hf d → plc d N + i ≠ (N + 1) % 2 := fun i _ => by omega
  -- nothing of the new half lasts
  have early : ∀ D : DM, (∀ k, D.lasting k = d.lasting k) → (∀ k ls, D.since k = some ls → (plc d (N + 1) : Int) ≤ k ∧ k < plc d (N + 1) + ((padB l).length / 512 : Nat)) → D.size = d.size → looked (D.crash picks) = some ((N : Int), old) := by
    intro D hD1 hD2 hD3
    have hk : ∀ k, ¬ ((plc d (N + 1) : Int) ≤ k ∧ k < plc d (N + 1) + ((padB l).length / 512 : Nat)) → (D.crash picks).seen k = d.seen k := fun k hk => by
      rcases crash_seen D picks k with h | ⟨ls, x, h1, h2, h3⟩
      · rw [h, hD1, hc.2]
      · exact absurd (hD2 k ls h1) hk
    exact looked_same (E := D.crash picks) hD3 hl0 (fun k hk' => hk _ (by omega)) (fun i hi => hk _ (plc_apart d N _ hpb i hi))
  -- the new half lasts, its head perhaps
  have late : ∀ D : DM, d.failing = false → (∀ k, D.lasting k = (putA d N l).seen k) → (∀ k ls, D.since k = some ls → (((N + 1) % 2 : Nat) : Int) = k ∧ ls = [headB ((N + 1 : Nat) : Int) (l.length : Int)]) → D.size = d.size →
      looked (D.crash picks) = some ((N : Int), old) ∨ looked (D.crash picks) = some (((N + 1 : Nat) : Int), l) := by
    intro D hf0 hD1 hD2 hD3
    have hA : ∀ k, (putA d N l).seen k = if (plc d (N + 1) : Int) ≤ k ∧ k < plc d (N + 1) + ((padB l).length / 512 : Nat) then some (blkOf (padB l) (k - plc d (N + 1)).toNat) else d.seen k := fun k => seen_write hf0 _ _ _ k
    have hk : ∀ k, (((N + 1) % 2 : Nat) : Int) ≠ k → (D.crash picks).seen k = (putA d N l).seen k := fun k hk => by
      rcases crash_seen D picks k with h | ⟨ls, x, h1, h2, h3⟩
      · rw [h, hD1]
      · exact absurd (hD2 k ls h1).1 hk
    have old_one : (D.crash picks).seen (((N + 1) % 2 : Nat) : Int) = (putA d N l).seen (((N + 1) % 2 : Nat) : Int) → looked (D.crash picks) = some ((N : Int), old) := fun he => by
      have hall : ∀ k, (D.crash picks).seen k = (putA d N l).seen k := fun k => by
        by_cases hk' : (((N + 1) % 2 : Nat) : Int) = k
        · rw [← hk']; exact he
        · exact hk k hk'
      refine looked_same (E := D.crash picks) hD3 hl0 (fun k hk' => ?_) (fun i hi => ?_)
      · rw [hall, hA, if_neg (by omega)]
      · rw [hall, hA, if_neg (plc_apart d N _ hpb i hi)]
    rcases crash_seen D picks (((N + 1) % 2 : Nat) : Int) with h | ⟨ls, x, h1, h2, h3⟩
    · exact .inl (old_one (by rw [h, hD1]))
    · right
      obtain ⟨_, rfl⟩ := hD2 _ ls h1
      obtain rfl := List.mem_singleton.1 h2
      refine looked_as (E := D.crash picks) h4 hmost hD3 N hN (looked_best hl0).1 l hl fun j => ?_
      unfold putSeen
      by_cases hj : (((N + 1) % 2 : Nat) : Int) = j
      · rw [if_pos hj, ← hj]; exact h3
      · rw [if_neg hj, hk j hj, hA]
  unfold putE at h ⊢
  by_cases hf0 : d.failing = true
  · rw [if_pos hf0]
    exact .inl (early _ (fun _ => rfl) (fun k ls hs => (since_clean hc.1 d.failing (plc d (N + 1)) (padB l) ((padB l).length / 512) k ls hs).1) rfl)
  · have hf0' : d.failing = false := by simpa using hf0
    rw [if_neg hf0] at h ⊢
    by_cases hfA : (putA d N l).failing = true
    · rw [if_pos hfA]
      have e : (putA d N l).flush.1 = (putA d N l).stepped := by unfold DM.flush; rw [if_pos hfA]
      rw [e]
      exact .inl (early _ (fun _ => rfl) (fun k ls hs => (since_clean hc.1 d.failing (plc d (N + 1)) (padB l) ((padB l).length / 512) k ls hs).1) rfl)
    · have hfA' : (putA d N l).failing = false := by simpa using hfA
      have e : (putA d N l).flush.1 = (putA d N l).stepped.flushed := by unfold DM.flush; rw [if_neg hfA]
      have hB : ∀ k, ((putA d N l).flush.1).since k = none := by rw [e]; exact fun _ => rfl
      have hBl : ∀ k, ((putA d N l).flush.1).lasting k = (putA d N l).seen k := by rw [e]; exact fun _ => rfl
      have hBs : ((putA d N l).flush.1).size = d.size := by rw [e]; rfl
      have hCs : ∀ k ls, (putC d N l).since k = some ls → (((N + 1) % 2 : Nat) : Int) = k ∧ ls = [headB ((N + 1 : Nat) : Int) (l.length : Int)] := fun k ls hs => by
        obtain ⟨h1, h2⟩ := since_clean hB ((putA d N l).flush.1).failing ((N + 1) % 2) (headB ((N + 1 : Nat) : Int) (l.length : Int)) 1 k ls hs
        have h3 : (((N + 1) % 2 : Nat) : Int) = k := by omega
        refine ⟨h3, ?_⟩
        have e0 : (k - (((N + 1) % 2 : Nat) : Int)).toNat = 0 := by omega
        rw [h2, e0, blk_whole (headB_length _ _)]
      rw [if_neg hfA] at h ⊢
      have fin : ∀ D : DM, (∀ k, D.lasting k = (putA d N l).seen k) → D.since = (putC d N l).since → D.size = d.size → looked (D.crash picks) = some ((N : Int), old) ∨
          (d.failing = false ∧ (putA d N l).failing = false ∧ looked (D.crash picks) = some (((N + 1 : Nat) : Int), l)) := fun D h1 h2 h3 => by
        rcases late D hf0' h1 (by rw [h2]; exact hCs) h3 with h | h
        · exact .inl h
        · exact .inr ⟨hf0', hfA', h⟩
      by_cases hfB : ((putA d N l).flush.1).failing = true
      · rw [if_pos hfB]
        exact fin _ hBl rfl hBs
      · rw [if_neg hfB] at h ⊢
        have hfC : (putC d N l).failing = true := h
        have eD : putD d N l = (putC d N l).stepped := by unfold putD DM.flush; rw [if_pos hfC]
        show _ ∨ _
        rw [eD]
        exact fin _ hBl rfl hBs
/-- A crash of what lasts whole leaves it. -/
theorem looked_crash {d : DM} (hc : d.Clean) {N : Nat} {old : List UInt8} (hl0 : looked d = some ((N : Int), old)) (picks : List Int) : looked (d.crash picks) = some ((N : Int), old) := by
  have hk : ∀ k, (d.crash picks).seen k = d.seen k := fun k => by
    rcases crash_seen d picks k with h | ⟨ls, x, h1, _⟩
    · rw [h, hc.2]
    · rw [hc.1] at h1; cases h1
  exact looked_same (d := d) (E := d.crash picks) rfl hl0 (fun k _ => hk _) (fun i _ => hk _)
end Go.Proofs.Ytfpmdagchbbkcaa
