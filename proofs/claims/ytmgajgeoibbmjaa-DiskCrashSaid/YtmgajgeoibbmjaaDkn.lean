/- The law's known, and vast. -/
import Derived.Test.YtmgajgeoibbmjaaDd
namespace Go.Proofs.Ytmgajgeoibbmjaa
open Go.RowKit

theorem one_int (w : World) (x : Int) : RdI (w.alloc (.cells #[.int .i64 x] 3)) (.slice (some ⟨w.heap.size, 0, none⟩) 1 1) [x] := ⟨some ⟨w.heap.size, 0, none⟩, 1, rfl, fun h => (by cases h), fun ad had => by
  cases had
  refine ⟨fun _ => rfl, fun i k hi => ?_⟩
  cases i with
  | zero => simp at hi; subst hi; exact cellOf (heap_alloc_new _ _) rfl
  | succ i => simp at hi⟩

def rep (b : UInt8) : List UInt8 := List.replicate 512 b
theorem rep_length (b : UInt8) : (rep b).length = 512 := by unfold rep; rw [List.length_replicate]
theorem blk_rep (b : UInt8) : blkOf (rep b) 0 = rep b := by
  unfold blkOf
  rw [Nat.mul_zero, List.drop_zero]
  exact List.take_of_length_le (by rw [rep_length]; exact Nat.le_refl _)
def q1 : DM := ((DM.new 2).write 0 (rep 97) 1).1
def q2 : DM := (q1.write 0 (rep 98) 1).1
def q3 : DM := q2.flush.1
def q4 : DM := q3.failL [3]
def q5 : DM := (q4.write 1 (rep 99) 1).1
theorem q1_code : ((DM.new 2).write 0 (rep 97) 1).2 = 0 := by kernel_rfl
theorem q2_code : (q1.write 0 (rep 98) 1).2 = 0 := by kernel_rfl
theorem q3_code : q2.flush.2 = 0 := by kernel_rfl
theorem q5_code : (q4.write 1 (rep 99) 1).2 = 300 := by kernel_rfl
theorem q1_size : q1.size = 2 := by kernel_rfl
theorem q3_size : q3.size = 2 := by kernel_rfl
theorem q4_size : q4.size = 2 := by kernel_rfl
theorem q5_size : q5.size = 2 := by kernel_rfl
theorem q5_steps : q5.steps = 4 := by kernel_rfl
theorem q5_pend : (sinceKeys q5).length = 1 := by kernel_rfl
theorem blk_of_seen {d : DM} {k : Nat} {l : List UInt8} (h : d.seen (k : Int) = some l) : readB d k 1 = l := by rw [readB_one]; unfold blkAt; rw [h]; rfl
theorem blk_of_none {d : DM} {k : Nat} (h : d.seen (k : Int) = none) : readB d k 1 = rep 0 := by rw [readB_one]; unfold blkAt; rw [h]; rfl
theorem x_reads : decide (readB (q1.crash [0]) 0 1 = rep 0) = true := decide_eq_true (blk_of_none (k := 0) (by kernel_rfl))
theorem y_reads : decide (readB (q1.crash [1]) 0 1 = rep 97) = true := decide_eq_true ((blk_of_seen (k := 0) (l := blkOf (rep 97) 0) (by kernel_rfl)).trans (blk_rep 97))
theorem d_reads : decide (readB q5 1 1 = rep 0) = true := decide_eq_true (blk_of_none (k := 1) (by kernel_rfl))
theorem z_reads1 : decide (readB (q5.crash [1]) 1 1 = rep 99) = true := decide_eq_true ((blk_of_seen (k := 1) (l := blkOf (rep 99) 0) (by kernel_rfl)).trans (blk_rep 99))
theorem z_reads0 : decide (readB (q5.crash [1]) 0 1 = rep 98) = true := decide_eq_true ((blk_of_seen (k := 0) (l := blkOf (rep 98) 0) (by kernel_rfl)).trans (blk_rep 98))

set_option maxRecDepth 100000 in
set_option maxHeartbeats 4000000 in
theorem known_any (w : World) : Calls Try.prog 7 #[] w fun e w' => e = .returned (.bool true) ∧ Below w.heap.size w w' := by
  have HN := Lib.hid (Dd.new 2 (by omega) (by omega) w)
  have Hb1 := Lib.hid (fun w => block_any 97 w)
  have Hb2 := Lib.hid (fun w => block_any 98 w)
  have Hb3 := Lib.hid (fun w => block_any 99 w)
  go_enter Try.func7, Try.ntmps7
  go_wp2_with (first
    | (go_at_call 8; refine HN.out.mono ?_; rintro e w1 ⟨rfl, hd1, hb1⟩; have H1 := Lib.hid hd1; clear hd1 hb1 HN)
    | (go_at_call 17; refine (Hb1.out _).mono ?_; rintro e w2 ⟨c2, rfl, hown2, hb2⟩
       have HW1 := Lib.hid (H1.out.write (by show 0 < 1073741824; omega) hb2 _ 512 c2 (rep 97) hown2.rd (fun g hg => by cases hg; exact Nat.le_refl _) 0 1 (rep_length 97) (by show 0 + 1 ≤ 2; omega))
       clear hown2 hb2 Hb1)
    | (go_at_call 16; refine HW1.out.mono ?_; rintro e w3 ⟨rfl, hd3⟩
       have H3 : Hid (Dd w w3 _ q1) := Lib.hid hd3
       have HC1 := Lib.hid ((hd3.grow ((Below.refl _ _).alloc (Nat.le_refl _) (.cells #[.int .i64 0] 3))).crash _ 1 1 [0] (one_int w3 0) (Nat.le_refl _) (by show 1 ≤ 1000000; omega) rfl (by show 1 < 1073741824; omega))
       rw [q1_code]
       clear hd3 HW1)
    | (go_at_call 11; refine HC1.out.mono ?_; rintro e w4 ⟨x, rfl, hx4, hb4⟩
       have hd4 : Dd w w4 _ q1 := (H3.out.grow ((Below.refl _ _).alloc (Nat.le_refl _) (.cells #[.int .i64 0] 3))).grow hb4
       have HC2 := Lib.hid ((hd4.grow ((Below.refl _ _).alloc (Nat.le_refl _) (.cells #[.int .i64 1] 3))).crash _ 1 1 [1] (one_int w4 1) (Nat.le_refl _) (by show 1 ≤ 1000000; omega) rfl (by show 1 < 1073741824; omega))
       have H4 : Hid (Dd w w4 _ q1 ∧ Dd w w4 x (q1.crash [0])) := Lib.hid ⟨hd4, hx4⟩
       clear hx4 hd4 hb4 HC1)
    | (go_at_call 11; refine HC2.out.mono ?_; rintro e w5 ⟨y, rfl, hy5, hb5⟩
       have g5 : Below w4.heap.size w4 w5 := ((Below.refl _ _).alloc (Nat.le_refl _) (.cells #[.int .i64 1] 3)).trans (hb5.mono (by simp))
       have HRx := Lib.hid (reads_any (H4.out.2.grow g5) 0 (by show 0 + 1 ≤ 2; omega) 0 true x_reads)
       have H5 : Hid (Dd w w5 _ q1 ∧ Dd w w5 y (q1.crash [1])) := Lib.hid ⟨H4.out.1.grow g5, hy5⟩
       clear hy5 hb5 g5 HC2)
    | (go_at_call 18; refine HRx.out.mono ?_; rintro e w6 ⟨rfl, hb6⟩
       have HRy := Lib.hid (reads_any (H5.out.2.grow hb6) 0 (by show 0 + 1 ≤ 2; omega) 97 true y_reads)
       have H6 := Lib.hid (H5.out.1.grow hb6)
       clear hb6 HRx)
    | (go_at_call 18; refine HRy.out.mono ?_; rintro e w7 ⟨rfl, hb7⟩
       have H7 := Lib.hid (H6.out.grow hb7)
       clear hb7 HRy)
    | (go_at_call 17; refine (Hb2.out _).mono ?_; rintro e w8 ⟨c8, rfl, hown8, hb8⟩
       have HW2 := Lib.hid (H7.out.write (by show 1 < 1073741824; omega) hb8 _ 512 c8 (rep 98) hown8.rd (fun g hg => by cases hg; exact Nat.le_refl _) 0 1 (rep_length 98) (by show 0 + 1 ≤ 2; omega))
       clear hown8 hb8 Hb2)
    | (go_at_call 16; refine HW2.out.mono ?_; rintro e w9 ⟨rfl, hd9⟩
       have hd9 : Dd w w9 _ q2 := hd9
       have HFl := Lib.hid (hd9.flush (by show 2 < 1073741824; omega))
       rw [q2_code]
       clear hd9 HW2)
    | (go_at_call 19; refine HFl.out.mono ?_; rintro e w10 ⟨rfl, hd10⟩
       have hd10 : Dd w w10 _ q3 := hd10
       have HFa := Lib.hid (hd10.fail (N := 0) _ 1 1 [3] ((Below.refl _ _).alloc (Nat.le_refl _) (.cells #[.int .i64 3] 3)) (one_int w10 3) (fun g hg => by cases hg; exact Nat.le_refl _) (by show 1 ≤ 1000000; omega) (FailB.none (fun _ => rfl)) (by show 0 + 1 ≤ 1000000000; omega) rfl)
       rw [q3_code]
       clear hd10 HFl)
    | (go_at_call 20; refine HFa.out.mono ?_; rintro e w11 ⟨rfl, hd11⟩
       have H11 : Hid (Dd w w11 _ q4) := Lib.hid hd11
       clear hd11 HFa)
    | (go_at_call 17; refine (Hb3.out _).mono ?_; rintro e w12 ⟨c12, rfl, hown12, hb12⟩
       have HW3 := Lib.hid (H11.out.write (by show 3 < 1073741824; omega) hb12 _ 512 c12 (rep 99) hown12.rd (fun g hg => by cases hg; exact Nat.le_refl _) 1 1 (rep_length 99) (by show 1 + 1 ≤ 2; omega))
       clear hown12 hb12 Hb3)
    | (go_at_call 16; refine HW3.out.mono ?_; rintro e w13 ⟨rfl, hd13⟩
       have H13 : Hid (Dd w w13 _ q5) := Lib.hid hd13
       have HC3 := Lib.hid ((H13.out.grow ((Below.refl _ _).alloc (Nat.le_refl _) (.cells #[.int .i64 1] 3))).crash _ 1 1 [1] (one_int w13 1) (Nat.le_refl _) (by show 1 ≤ 1000000; omega) rfl (by rw [q5_steps]; omega))
       rw [q5_code]
       clear hd13 HW3)
    | (go_at_call 11; refine HC3.out.mono ?_; rintro e w14 ⟨z, rfl, hz14, hb14⟩
       have g14 : Below w13.heap.size w13 w14 := ((Below.refl _ _).alloc (Nat.le_refl _) (.cells #[.int .i64 1] 3)).trans (hb14.mono (by simp))
       have H14 : Hid (Dd w w14 _ q5 ∧ Dd w w14 z (q5.crash [1])) := Lib.hid ⟨H13.out.grow g14, hz14⟩
       have HR1 := Lib.hid (reads_any H14.out.1 1 (by rw [q5_size]; omega) 0 true d_reads)
       clear hz14 hb14 g14 HC3)
    | (go_at_call 18; refine HR1.out.mono ?_; rintro e w15 ⟨rfl, hb15⟩
       have H15 := Lib.hid (And.intro (H14.out.1.grow hb15) (H14.out.2.grow hb15))
       have HR2 := Lib.hid (reads_any H15.out.2 1 (by show 1 + 1 ≤ q5.size; rw [q5_size]; omega) 99 true z_reads1)
       clear hb15 HR1)
    | (go_at_call 18; refine HR2.out.mono ?_; rintro e w16 ⟨rfl, hb16⟩
       have H16 := Lib.hid (And.intro (H15.out.1.grow hb16) (H15.out.2.grow hb16))
       have HR3 := Lib.hid (reads_any H16.out.2 0 (by show 0 + 1 ≤ q5.size; rw [q5_size]; omega) 98 true z_reads0)
       clear hb16 HR2)
    | (go_at_call 18; refine HR3.out.mono ?_; rintro e w17 ⟨rfl, hb17⟩
       have H17 := Lib.hid (H16.out.1.grow hb17)
       have hst := H17.out.steps
       rw [q5_steps] at hst
       have HSt := Lib.hid hst
       have hpd := H17.out.pending
       rw [q5_pend] at hpd
       have HPd := Lib.hid hpd
       clear hb17 HR3 hst hpd)
    | (go_at_call 21; refine HSt.out.mono ?_; rintro e w' ⟨rfl, rfl⟩)
    | (go_at_call 22; refine HPd.out.mono ?_; rintro e w' ⟨rfl, rfl⟩))
  go_ret
  exact ⟨rfl, H17.out.below⟩
end Go.Proofs.Ytmgajgeoibbmjaa
