/- The plain law of the book: what is put is looked up. No program in sight. -/
import Derived.Test.YtfpmdagchbbkcaaPut2
namespace Go.Proofs.Ytfpmdagchbbkcaa
open Go.RowKit

theorem seen_write {d : DM} (h : d.failing = false) (at_ : Nat) (l : List UInt8) (m : Nat) (j : Int) : (d.write at_ l m).1.seen j = if (at_ : Int) ≤ j ∧ j < at_ + m then some (blkOf l (j - at_).toNat) else d.seen j := by
  show (if d.failing = false ∧ (at_ : Int) ≤ j ∧ j < at_ + m then some (blkOf l (j - at_).toNat) else d.seen j) = _
  rw [h]; simp
theorem seen_flush (d : DM) : d.flush.1.seen = d.seen := by unfold DM.flush; cases d.failing <;> rfl
theorem hf_size {d d' : DM} (h : d.size = d'.size) : hf d = hf d' := by unfold hf; rw [h]

theorem leNat_append (l : List UInt8) (b : UInt8) : leNat (l ++ [b]) = leNat l + 256 ^ l.length * b.toNat := by
  induction l with
  | nil => simp [leNat]
  | cons x r ih =>
    simp only [leNat, List.cons_append, List.foldr_cons, List.length_cons] at *
    rw [ih, Nat.pow_succ]
    have e : 256 ^ r.length * 256 * b.toNat = 256 * (256 ^ r.length * b.toNat) := by ac_rfl
    omega
theorem leNat_leB (x k : Nat) : leNat (leB x k) = x % 256 ^ k := by
  induction k with
  | zero => simp [leB, leNat, Nat.mod_one]
  | succ k ih =>
    rw [leB_succ, leNat_append, ih, leB_length, Nat.mod_pow_succ]
    congr 1
    have : (UInt8.ofNat (x / 256 ^ k % 256)).toNat = x / 256 ^ k % 256 := by simp [UInt8.toNat_ofNat']
    rw [this]
theorem u64_nat (n : Nat) (h : n < 9223372036854775808) : u64 (n : Int) = n := by unfold u64; omega
theorem wrap_leB (n : Nat) (h : n < 9223372036854775808) : wrap64 ((leNat (leB (u64 (n : Int)) 8) : Nat) : Int) = n := by
  rw [leNat_leB, u64_nat n h]
  have e : (256 : Nat) ^ 8 = 18446744073709551616 := by decide
  rw [e]
  unfold wrap64
  omega
theorem headB_eq (n k : Int) : headB n k = leB (u64 n) 8 ++ (leB (u64 k) 8 ++ zeros 496) := by
  unfold headB padB zeros
  rw [List.append_assoc]
  congr 2
theorem hN_head (n : Nat) (k : Int) (h : n < 9223372036854775808) : hN (headB (n : Int) k) = n := by
  unfold hN
  rw [headB_eq, List.take_left' (leB_length _ _)]
  exact wrap_leB n h
theorem hL_head (n : Int) (k : Nat) (h : k < 9223372036854775808) : hL (headB n (k : Int)) = k := by
  unfold hL
  rw [headB_eq, List.drop_left' (leB_length _ _), List.take_left' (leB_length _ _)]
  exact wrap_leB k h
theorem drop_head (n k : Int) : (headB n k).drop 16 = zeros 496 := by
  have e : (16 : Nat) = 8 + 8 := rfl
  rw [headB_eq, e, ← List.drop_drop, List.drop_left' (leB_length _ _), List.drop_left' (leB_length _ _)]
theorem headOk_head (n k j q : Nat) (hn : 1 ≤ n) (hn2 : n ≤ 4611686018427387904) (hj : n % 2 = j) (hk : k ≤ q * 512) (hq : q ≤ 65536) : headOk (headB (n : Int) (k : Int)) j q = true := by
  have e : ((n : Int)).tmod 2 = (j : Int) := by rw [Int.tmod_eq_emod_of_nonneg (by omega)]; omega
  simp only [headOk, hN_head n _ (by omega), hL_head _ k (by omega), drop_head, e, Bool.and_eq_true, decide_eq_true_eq, beq_self_eq_true, and_true]
  omega

theorem blk_whole {l : List UInt8} (h : l.length = 512) : blkOf l 0 = l := by
  unfold blkOf
  rw [Nat.mul_zero, List.drop_zero]
  exact List.take_of_length_le (by omega)

theorem plc_ge (d : DM) (n : Nat) : 2 ≤ plc d n := by unfold plc; omega
/-- Blocks behind a put. -/
theorem seen_put {d : DM} (hno : ∀ k, d.fails k = none) (N : Nat) (l : List UInt8) (j : Int) :
    (putD d N l).seen j = if (((N + 1) % 2 : Nat) : Int) = j then some (headB ((N + 1 : Nat) : Int) (l.length : Int)) else if (plc d (N + 1) : Int) ≤ j ∧ j < plc d (N + 1) + ((padB l).length / 512 : Nat) then some (blkOf (padB l) (j - plc d (N + 1)).toNat) else d.seen j := by
  unfold putD putC
  rw [seen_flush, seen_write (nofail (by rw [flush_fails]; exact hno)), seen_flush]
  unfold putA
  rw [seen_write (nofail hno)]
  by_cases h : (((N + 1) % 2 : Nat) : Int) = j
  · rw [if_pos h, if_pos (by omega)]
    have e : (j - (((N + 1) % 2 : Nat) : Int)).toNat = 0 := by omega
    rw [e, blk_whole (headB_length _ _)]
  · rw [if_neg h, if_neg (by omega)]

theorem best_ge (hs : List (Int × Int)) : ∀ x ∈ hs, x.1 ≤ (best hs).1 := by
  have key : ∀ (hs : List (Int × Int)) (b : Int × Int), b.1 ≤ (hs.foldl better b).1 ∧ ∀ x ∈ hs, x.1 ≤ (hs.foldl better b).1 := by
    intro hs
    induction hs with
    | nil => exact fun b => ⟨Int.le_refl _, fun x hx => by cases hx⟩
    | cons y r ih =>
      intro b
      obtain ⟨h1, h2⟩ := ih (better b y)
      have hb : b.1 ≤ (better b y).1 ∧ y.1 ≤ (better b y).1 := by unfold better; split <;> omega
      rw [List.foldl_cons]
      refine ⟨by omega, fun x hx => ?_⟩
      rcases List.mem_cons.1 hx with rfl | hx
      · omega
      · exact h2 x hx
  exact (key hs _).2
theorem upTo_two {α : Type} (f : Nat → Option α) : upTo f 2 = (f 0).toList ++ (f 1).toList := by
  have e1 := upTo_succ f 1
  have e0 := upTo_succ f 0
  have en : upTo f 0 = [] := rfl
  rw [e0, en, List.nil_append] at e1
  exact e1
theorem heads_two (d : DM) : heads d 2 = (headOf d 0).toList ++ (headOf d 1).toList := upTo_two (headOf d)
theorem headOf_of_blk {d d' : DM} {k : Nat} (h : blkAt d' k = blkAt d k) (hs : d'.size = d.size) : headOf d' k = headOf d k := by
  unfold headOf; rw [h, hf_size hs]
theorem blks_flat (l : List UInt8) (m : Nat) : (List.range m).flatMap (blkOf l) = l.take (512 * m) := by
  induction m with
  | zero => simp
  | succ m ih =>
    rw [List.range_succ, List.flatMap_append, ih, List.flatMap_singleton, Nat.mul_succ, List.take_add]
    rfl
theorem readB_take (d : DM) (p m q : Nat) (h : m ≤ q) : ∃ r, readB d p q = readB d p m ++ r := by
  induction q with
  | zero => obtain rfl : m = 0 := by omega
            exact ⟨[], by simp⟩
  | succ q ih =>
    by_cases hm : m = q + 1
    · subst hm; exact ⟨[], by simp⟩
    · obtain ⟨r, hr⟩ := ih (by omega)
      exact ⟨r ++ (d.seen ((p + q : Nat) : Int)).getD zblk, by rw [readB_succ, hr, List.append_assoc]⟩
theorem flatMap_congr' {α β : Type} {l : List α} {f g : α → List β} (h : ∀ x ∈ l, f x = g x) : l.flatMap f = l.flatMap g := by
  induction l with
  | nil => rfl
  | cons x r ih => rw [List.flatMap_cons, List.flatMap_cons, h x (by simp), ih (fun y hy => h y (by simp [hy]))]
theorem put_size {d : DM} (N : Nat) (l : List UInt8) : (putD d N l).size = d.size := by unfold putD putC; rw [DM.flush_size, DM.write_size, DM.flush_size]; rfl
/-- The blocks behind a Put. -/
def putSeen (d : DM) (N : Nat) (l : List UInt8) (j : Int) : Option (List UInt8) :=
  if (((N + 1) % 2 : Nat) : Int) = j then some (headB ((N + 1 : Nat) : Int) (l.length : Int)) else if (plc d (N + 1) : Int) ≤ j ∧ j < plc d (N + 1) + ((padB l).length / 512 : Nat) then some (blkOf (padB l) (j - plc d (N + 1)).toNat) else d.seen j
theorem looked_as {d E : DM} (h4 : 4 ≤ d.size) (hmost : d.size ≤ 65536) (hsz : E.size = d.size) (N : Nat) (hN : N < 4611686018427387904) (hb : (best (heads d 2)).1 = (N : Int)) (l : List UInt8) (hl : l.length ≤ hf d * 512) (hs : ∀ j, E.seen j = putSeen d N l j) :
    looked E = some (((N + 1 : Nat) : Int), l) := by
  have hq : hf d ≤ 32767 := by unfold hf; omega
  have hhf : hf (E) = hf d := hf_size hsz
  have hj : headOf (E) ((N + 1) % 2) = some (((N + 1 : Nat) : Int), (l.length : Int)) := by
    have hblk : blkAt (E) ((N + 1) % 2) = headB ((N + 1 : Nat) : Int) (l.length : Int) := by
      unfold blkAt; rw [hs, putSeen, if_pos rfl]; rfl
    unfold headOf
    rw [hblk, hhf, headOk_head (N + 1) l.length _ _ (by omega) (by omega) rfl hl (by omega), if_pos rfl, hN_head _ _ (by omega), hL_head _ _ (by omega)]
  have hi : headOf (E) (N % 2) = headOf d (N % 2) := by
    refine headOf_of_blk ?_ hsz
    have h2 := plc_ge d (N + 1)
    unfold blkAt; rw [hs, putSeen, if_neg (by omega), if_neg (by omega)]
  have hle : ∀ x, headOf d (N % 2) = some x → x.1 ≤ (N : Int) := by
    intro x hx
    rw [← hb]
    refine best_ge _ x ?_
    rw [heads_two]
    rcases Nat.mod_two_eq_zero_or_one N with e | e
    · rw [e] at hx; rw [hx]; simp
    · rw [e] at hx; rw [hx]; simp
  have hbest : best (heads (E) 2) = (((N + 1 : Nat) : Int), (l.length : Int)) := by
    rw [heads_two]
    rcases Nat.mod_two_eq_zero_or_one N with e | e
    · have e1 : (N + 1) % 2 = 1 := by omega
      rw [e1] at hj; rw [e] at hi hle
      rw [hi, hj]
      cases hx : headOf d 0 with
      | none =>
        have h0 : better (0, 0) (((N + 1 : Nat) : Int), (l.length : Int)) = (((N + 1 : Nat) : Int), (l.length : Int)) := by unfold better; rw [if_pos (by show (0 : Int) < ((N + 1 : Nat) : Int); omega)]
        simp only [Option.toList_some, Option.toList_none, List.nil_append, best, List.foldl_cons, List.foldl_nil, h0]
      | some x =>
        have := hle x hx
        simp only [Option.toList_some, List.cons_append, List.nil_append, best, List.foldl_cons, List.foldl_nil]
        have h1 : (better (0, 0) x).1 ≤ (N : Int) := by unfold better; split; exact this; exact (by omega : (0 : Int) ≤ (N : Int))
        generalize better (0, 0) x = y at *
        unfold better
        rw [if_pos (by show y.1 < ((N + 1 : Nat) : Int); omega)]
    · have e1 : (N + 1) % 2 = 0 := by omega
      rw [e1] at hj; rw [e] at hi hle
      rw [hi, hj]
      have h0 : better (0, 0) (((N + 1 : Nat) : Int), (l.length : Int)) = (((N + 1 : Nat) : Int), (l.length : Int)) := by unfold better; rw [if_pos (by show (0 : Int) < ((N + 1 : Nat) : Int); omega)]
      cases hx : headOf d 1 with
      | none => simp only [Option.toList_some, Option.toList_none, List.append_nil, best, List.foldl_cons, List.foldl_nil, h0]
      | some x =>
        have := hle x hx
        simp only [Option.toList_some, List.cons_append, List.nil_append, best, List.foldl_cons, List.foldl_nil, h0]
        unfold better
        rw [if_neg (by show ¬ ((N + 1 : Nat) : Int) < x.1; omega)]
  unfold looked
  rw [hbest, if_neg (by show ¬ ((N + 1 : Nat) : Int) = 0; omega)]
  have hn : (((N + 1 : Nat) : Int), (l.length : Int)).1.toNat = N + 1 := by show (((N + 1 : Nat) : Int)).toNat = N + 1; omega
  have hk : (((N + 1 : Nat) : Int), (l.length : Int)).2.toNat = l.length := by show ((l.length : Int)).toNat = l.length; omega
  rw [hn, hk]
  have hp : plc (E) (N + 1) = plc d (N + 1) := by unfold plc; rw [hhf]
  rw [hp, hhf]
  have hm : (padB l).length = 512 * ((padB l).length / 512) := by have := padB_length l; omega
  have hpl : (padB l).length = l.length + (512 - l.length % 512) % 512 := by simp [padB]
  have hm2 : (padB l).length / 512 ≤ hf d := by omega
  obtain ⟨r, hr⟩ := readB_take (E) (plc d (N + 1)) _ _ hm2
  have hrd : readB (E) (plc d (N + 1)) ((padB l).length / 512) = padB l := by
    have h2 := plc_ge d (N + 1)
    have e1 : readB (E) (plc d (N + 1)) ((padB l).length / 512) = (List.range ((padB l).length / 512)).flatMap (blkOf (padB l)) := by
      unfold readB
      refine flatMap_congr' fun i hi => ?_
      have hi' := List.mem_range.1 hi
      rw [hs, putSeen, if_neg (by omega), if_pos (by omega)]
      have e : (((plc d (N + 1) + i : Nat) : Int) - plc d (N + 1)).toNat = i := by omega
      rw [e]; rfl
    rw [e1, blks_flat, ← hm, List.take_length]
  have hfin : (readB (E) (plc d (N + 1)) (hf d)).take l.length = l := by
    rw [hr, hrd]
    unfold padB
    rw [List.append_assoc]
    exact List.take_left' rfl
  rw [hfin]

theorem looked_put {d : DM} (h4 : 4 ≤ d.size) (hmost : d.size ≤ 65536) (hno : ∀ k, d.fails k = none) (N : Nat) (hN : N < 4611686018427387904) (hb : (best (heads d 2)).1 = (N : Int)) (l : List UInt8) (hl : l.length ≤ hf d * 512) :
    looked (putD d N l) = some (((N + 1 : Nat) : Int), l) := looked_as h4 hmost (put_size N l) N hN hb l hl (seen_put hno N l)

/-! ### a formatted disk -/
theorem hN_zeros : hN (zeros 512) = 0 := by
  have e : leNat ((zeros 512).take 8) = 0 := by
    have : (zeros 512).take 8 = zeros 8 := by unfold zeros; rw [List.take_replicate]; rfl
    rw [this]; rfl
  unfold hN; rw [e]; unfold wrap64; omega
theorem headOk_zeros (k q : Nat) : headOk (zeros 512) k q = false := by
  have h : decide (1 ≤ hN (zeros 512)) = false := by rw [hN_zeros]; rfl
  unfold headOk; rw [h]; simp only [Bool.false_and]
theorem fmt_blk0 : blkOf fmtB 0 = zeros 512 := by
  unfold blkOf fmtB
  rw [Nat.mul_zero, List.drop_zero]
  exact List.take_left' (by unfold zeros; rw [List.length_replicate])
theorem fmt_blk1 : blkOf fmtB 1 = headB 1 0 := by
  unfold blkOf fmtB
  rw [Nat.mul_one, List.drop_left' (by unfold zeros; rw [List.length_replicate])]
  exact List.take_of_length_le (by rw [headB_length]; exact Nat.le_refl _)
theorem format_eq {d : DM} (hno : ∀ k, d.fails k = none) : d.format = (d.write 0 fmtB 2).1.flush := by unfold DM.format; rw [nofail hno]; rfl
theorem format_size {d : DM} (hno : ∀ k, d.fails k = none) : d.format.1.size = d.size := by rw [format_eq hno, DM.flush_size]; rfl
theorem format_code {d : DM} (hno : ∀ k, d.fails k = none) : d.format.2 = 0 := by rw [format_eq hno]; exact flush_code (d := (d.write 0 fmtB 2).1) hno
theorem format_fails {d : DM} (hno : ∀ k, d.fails k = none) : d.format.1.fails = d.fails := by rw [format_eq hno, flush_fails]; rfl
theorem format_steps {d : DM} (hno : ∀ k, d.fails k = none) : d.format.1.steps = d.steps + 2 := by rw [format_eq hno, DM.flush_steps]; rfl
theorem best_format {d : DM} (hno : ∀ k, d.fails k = none) (hmost : d.size ≤ 65536) : best (heads d.format.1 2) = (1, 0) := by
  have hq : hf d.format.1 ≤ 65536 := by rw [hf_size (format_size hno)]; unfold hf; omega
  have hs : ∀ j : Int, d.format.1.seen j = if (0 : Int) ≤ j ∧ j < 2 then some (blkOf fmtB j.toNat) else d.seen j := by
    intro j
    rw [format_eq hno, seen_flush, seen_write (nofail hno)]
    by_cases h : (0 : Int) ≤ j ∧ j < 2
    · rw [if_pos h, if_pos (by omega)]
      have e : (j - ((0 : Nat) : Int)).toNat = j.toNat := by omega
      rw [e]
    · rw [if_neg h, if_neg (by omega)]
  have h0 : headOf d.format.1 0 = none := by
    have hb : blkAt d.format.1 0 = zeros 512 := by
      unfold blkAt; rw [hs, if_pos (by omega)]; exact fmt_blk0
    unfold headOf; rw [hb, headOk_zeros]; rfl
  have h1 : headOf d.format.1 1 = some (((1 : Nat) : Int), ((0 : Nat) : Int)) := by
    have hb : blkAt d.format.1 1 = headB ((1 : Nat) : Int) ((0 : Nat) : Int) := by
      have e1 : ((1 : Nat) : Int) = 1 := rfl
      have e0 : ((0 : Nat) : Int) = 0 := rfl
      have et : (1 : Int).toNat = 1 := rfl
      unfold blkAt; rw [hs, if_pos (by omega), Option.getD_some, e1, e0, et]; exact fmt_blk1
    unfold headOf; rw [hb, headOk_head 1 0 1 _ (by omega) (by omega) rfl (by omega) hq, if_pos rfl, hN_head _ _ (by omega), hL_head _ _ (by omega)]
  rw [heads_two, h0, h1]
  rfl
theorem looked_format {d : DM} (hno : ∀ k, d.fails k = none) (hmost : d.size ≤ 65536) : looked d.format.1 = some (1, []) := by
  unfold looked
  rw [best_format hno hmost, if_neg (by show ¬ (1 : Int) = 0; omega)]
  have e : ((1, 0) : Int × Int).2.toNat = 0 := rfl
  rw [e, List.take_zero]
/-- On a new disk nothing is found. -/
theorem blkAt_new (n k : Nat) : blkAt (DM.new n) k = zeros 512 := by
  unfold blkAt
  show zblk = zeros 512
  unfold zblk zeros
  rfl
theorem looked_new (n : Nat) : looked (DM.new n) = none := by
  have h : ∀ k, headOf (DM.new n) k = none := fun k => by unfold headOf; rw [blkAt_new, headOk_zeros]; rfl
  have hb : best (heads (DM.new n) 2) = (0, 0) := by rw [heads_two, h, h]; rfl
  unfold looked
  rw [hb]; rfl
end Go.Proofs.Ytfpmdagchbbkcaa
