/- The book: the iterator over the heads that count. -/
import Derived.Test.YtfpmdagchbbkcaaCount
namespace Go.Proofs.Ytfpmdagchbbkcaa
open Go.RowKit

theorem blkAt_length {d : DM} (h : d.Ok) (k : Nat) : (blkAt d k).length = 512 := seen_length h k
theorem read_one {w : World} {F : Nat → Prop} {a : Nat} {d : DM} (hd : Disk w F a d) (k : Nat) (hk : k + 1 ≤ d.size) :
    Calls Try.prog 13 #[.pointer (some ⟨a, 0, none⟩), .int .i64 (k : Int), .int .i64 1] w fun e w' =>
      ∃ a1 c1, e = .returned (.tuple #[.slice a1 512 c1, .int .i64 0]) ∧ RdB w' (.slice a1 512 c1) (blkAt d k) ∧ Below w.heap.size w w' := by
  refine (read_ok hd k 1 hk).mono ?_
  rintro e w' ⟨v, rfl, hown, hb, hg⟩
  rw [readB_one] at hown
  obtain ⟨a1, c1, hs⟩ := hown.shape
  rw [blkAt_length hd.1] at hs
  subst hs
  exact ⟨a1, c1, rfl, hown.rd, hb⟩

set_option maxRecDepth 100000 in
set_option maxHeartbeats 2000000 in
theorem iter_counting (Bd a : Nat) (d : DM) (h4 : 4 ≤ d.size) :
    Iter Try.prog 62 #[.pointer (some ⟨Bd, 0, none⟩)] (fun x : Int × Int => #[.int .i64 x.1, .int .i64 x.2])
      (fun pre => ∃ k, k ≤ 2 ∧ pre = heads d k) (fun xs => xs = heads d 2) 0
      (fun W => W.cell? ⟨Bd, 0, none⟩ = some (.pointer (some ⟨a, 0, none⟩)) ∧ ∃ F, Disk W F a d) := by
  intro L J Jx w hLt hpre hkeep hY h0
  refine callsIn_of_wp Try.func62 rfl trivial ?_ rfl
  refine (wpIn_wide (n := 0)).2 ?_
  simp only [Try.ntmps62, List.size_toArray, List.length_cons, List.length_nil, Nat.reduceAdd, Nat.reduceSub, Array.replicate_succ, Array.replicate_zero, List.push_toArray, List.append_toArray, List.nil_append, List.cons_append]
  have Hpre := Lib.hid hpre
  have Hkeep := Lib.hid hkeep
  have HY := Lib.hid hY
  have H4 := Lib.hid h4
  clear hpre hkeep hY h4
  go_wp2
  go_loopw [9] (fun i wr => ∃ k : Nat, k ≤ 2 ∧ i = .int .i64 (k : Int) ∧ J (heads d k) wr ∧ w.heap.size ≤ wr.heap.size) (fun i _ => 2 - (intOf i).toNat)
  case atStart => exact ⟨0, by omega, rfl, h0, Nat.le_refl _⟩
  case round =>
    obtain ⟨k, hk, rfl, hJ, hsz⟩ := hrel
    obtain ⟨hB', F', hD'⟩ := Hpre.out _ _ hJ
    by_cases hk2 : k < 2
    · have H4o := H4.out
      have Hrd := Lib.hid (read_one hD' k (by omega))
      have hlen := blkAt_length hD'.1 k
      have HJ := Lib.hid hJ
      have HD := Lib.hid hD'
      have Hlen := Lib.hid hlen
      clear hJ hD' H4o hlen h0
      go_wp2_with (go_at_call 13; refine Hrd.out.mono ?_; rintro e w1 ⟨a1, c1, rfl, hrd, hb⟩; have HR := Lib.hid hrd; have HB := Lib.hid hb; clear hrd hb)
      obtain ⟨p1, hp1, hr1, _⟩ := sub_rd HR.out none (some 8) 0 8 (by simp) (by simp) (by simp) (by simp) (by omega) (by omega)
      obtain ⟨p2, hp2, hr2, _⟩ := sub_rd HR.out (some 8) (some 16) 8 16 (by simp) (by simp) (by simp) (by simp) (by omega) (by omega)
      obtain ⟨p3, hp3, hr3, hq3⟩ := sub_rd HR.out (some 16) none 16 512 (by simp) (by simp) (by simp) (by simp) (by omega) (by omega)
      have hl1 : (((blkAt d k).drop 0).take (8 - 0)).length = 8 := by rw [List.length_take, List.length_drop, Hlen.out]; omega
      have hl2 : (((blkAt d k).drop 8).take (16 - 8)).length = 8 := by rw [List.length_take, List.length_drop, Hlen.out]; omega
      refine plain_region_draws (fun _ => True) (by kernel_rfl) trivial (fun _ => ?_)
      refine take 0 18 (v := .slice a1 512 c1) rfl rfl (by kernel_rfl) (by kernel_rfl) (by kernel_rfl) rfl (fun W hW => exec_move rfl rfl) trivial ?_
      simp only [Act.put, List.setIfInBounds_toArray, List.set_cons_zero, List.set_cons_succ]
      refine take 1 19 (v := .slice p1 8 c1) rfl rfl (by kernel_rfl) (by kernel_rfl) (by kernel_rfl) rfl (fun W hW => exec_slice rfl rfl rfl rfl rfl (hp1 W)) trivial ?_
      simp only [Act.put, List.setIfInBounds_toArray, List.set_cons_zero, List.set_cons_succ]
      refine take 3 21 (v := .slice a1 512 c1) rfl rfl (by kernel_rfl) (by kernel_rfl) (by kernel_rfl) rfl (fun W hW => exec_move rfl rfl) trivial ?_
      simp only [Act.put, List.setIfInBounds_toArray, List.set_cons_zero, List.set_cons_succ]
      refine take 4 22 (v := .slice p2 8 (c1 - 8)) rfl rfl (by kernel_rfl) (by kernel_rfl) (by kernel_rfl) rfl (fun W hW => exec_slice rfl rfl rfl rfl rfl (hp2 W)) trivial ?_
      simp only [Act.put, List.setIfInBounds_toArray, List.set_cons_zero, List.set_cons_succ]
      refine onlyCall 2 20 rfl rfl (by kernel_rfl) rfl (exec_call [.slice p1 8 c1] rfl rfl Try.func63 (by kernel_rfl) (by kernel_rfl)) ?_
      refine (number_any w1.drew p1 8 c1 _ hr1 (by rw [hl1]; omega)).mono ?_
      rintro e w2 ⟨rfl, hb2⟩
      refine ⟨_, rfl, .inr trivial, ?_⟩
      simp only [Act.put, List.setIfInBounds_toArray, List.set_cons_zero, List.set_cons_succ]
      refine onlyCall 5 23 rfl rfl (by kernel_rfl) rfl (exec_call [.slice p2 8 (c1 - 8)] rfl rfl Try.func63 (by kernel_rfl) (by kernel_rfl)) ?_
      refine (number_any w2 p2 8 (c1 - 8) _ (RdB.below (w := w1.drew) hr2 hb2) (by rw [hl2]; omega)).mono ?_
      rintro e w3 ⟨rfl, hb3⟩
      refine ⟨_, rfl, .inr trivial, ?_⟩
      simp only [Act.put, List.setIfInBounds_toArray, List.set_cons_zero, List.set_cons_succ]
      refine onlyRun 6 6 (v := .int .i64 (hN (blkAt d k))) rfl rfl (by kernel_rfl) rfl (exec_assign rfl rfl) (.inr trivial) ?_
      simp only [Act.put, List.setIfInBounds_toArray, List.set_cons_zero, List.set_cons_succ]
      refine onlyRun 7 7 (v := .int .i64 (hL (blkAt d k))) rfl rfl (by kernel_rfl) rfl (exec_assign rfl rfl) (.inr trivial) ?_
      simp only [Act.put, List.setIfInBounds_toArray, List.set_cons_zero, List.set_cons_succ]
      refine done (by kernel_rfl) ?_ _
      have hbA : Below wr.heap.size wr w3 := HB.out.trans ((((Below.refl _ _).drew).trans (hb2.mono (Nat.le_refl _))).trans (hb3.mono hb2.size) |>.mono HB.out.size)
      have hr3' : RdB w3 (.slice p3 496 (c1 - 16)) ((blkAt d k).drop 16) := by
        have h1 : ((blkAt d k).drop 16).take (512 - 16) = (blkAt d k).drop 16 := List.take_of_length_le (by rw [List.length_drop, Hlen.out]; omega)
        rw [h1] at hr3
        exact (RdB.below (w := w1.drew) hr3 hb2).below hb3
      have hD3 := HD.out.below hbA
      have Hhf := Lib.hid (half_disk hD3 H4.out)
      have e1 : w3.cell? ⟨Bd, 0, none⟩ = some (.pointer (some ⟨a, 0, none⟩)) := belowCell hbA (ltOf hB') hB'
      have hJ3 : J (heads d k) w3 := Hkeep.out _ _ _ HJ.out hsz (Touch.of_below hbA fun b h1 h2 => absurd h1 (by omega))
      have HJ3 := Lib.hid hJ3
      have Hr3 := Lib.hid hr3'
      have Hp3 := Lib.hid hp3
      have hsz3 : w.heap.size ≤ w3.heap.size := Nat.le_trans hsz hbA.size
      have HhO := Lib.hid (rfl : headOk (blkAt d k) k (hf d) = headOk (blkAt d k) k (hf d))
      have hq0 : (hf d : Int) ≤ 65536 := by have := HD.out.1.most; unfold hf; omega
      have hqw : wrap64 ((hf d : Int) * 512) = (hf d : Int) * 512 := by unfold wrap64; omega
      have Hqw := Lib.hid hqw
      clear hl1 hl2 hr1 hr2 hr3 hr3' hp1 hp2 hp3 hq3 hb2 hb3 hJ3 hD3 hbA hB' hsz Hrd hqw
      generalize hn : hN (blkAt d k) = n
      generalize hm : hL (blkAt d k) = m
      have Hn := Lib.hid hn
      have Hm := Lib.hid hm
      clear hn hm
      have hcases : (decide (1 ≤ n) = false) ∨ (decide (1 ≤ n) = true ∧ decide (n ≤ 4611686018427387904) = false) ∨
          (decide (1 ≤ n) = true ∧ decide (n ≤ 4611686018427387904) = true ∧ (n.tmod 2 == (k : Int)) = false) ∨
          (decide (1 ≤ n) = true ∧ decide (n ≤ 4611686018427387904) = true ∧ (n.tmod 2 == (k : Int)) = true ∧ decide (0 ≤ m) = false) ∨
          (decide (1 ≤ n) = true ∧ decide (n ≤ 4611686018427387904) = true ∧ (n.tmod 2 == (k : Int)) = true ∧ decide (0 ≤ m) = true ∧ decide (m ≤ (hf d : Int) * 512) = false) ∨
          (decide (1 ≤ n) = true ∧ decide (n ≤ 4611686018427387904) = true ∧ (n.tmod 2 == (k : Int)) = true ∧ decide (0 ≤ m) = true ∧ decide (m ≤ (hf d : Int) * 512) = true) := by
        cases decide (1 ≤ n) <;> cases decide (n ≤ 4611686018427387904) <;> cases (n.tmod 2 == (k : Int)) <;> cases decide (0 ≤ m) <;> cases decide (m ≤ (hf d : Int) * 512) <;> simp
      have hJd : J (heads d k) w3.drew := Hkeep.out _ _ _ HJ3.out hsz3 (Touch.refl _ _).drew
      have HJd := Lib.hid hJd
      clear hJd
      rcases hcases with c | ⟨c, c'⟩ | ⟨c, c', c2⟩ | ⟨c, c', c2, c3⟩ | ⟨c, c', c2, c3, c4⟩ | ⟨c, c', c2, c3, c4⟩
      · have hno : headOf d k = none := by simp only [headOf, headOk, Hn.out, Hm.out, c, Bool.and_false, Bool.false_and, Bool.false_eq_true, if_false]
        have HJe : Hid (J (heads d (k + 1)) w3.drew ∧ w.heap.size ≤ w3.drew.heap.size) := Lib.hid ⟨by rw [heads_none hno]; exact HJd.out, hsz3⟩
        clear hno
        go_wp2_with (go_at_call 38; refine Hhf.out.mono ?_; rintro e w4 ⟨rfl, rfl⟩)
        refine yield_region_draws (by kernel_rfl) ?_
        refine takeI 0 47 (v := .bool false) rfl rfl (by kernel_rfl) (by kernel_rfl) (by kernel_rfl) rfl (fun W => exec_move rfl rfl) (fun W => rfl) ?_
        simp only [Act.put, List.setIfInBounds_toArray, List.set_cons_zero, List.set_cons_succ]
        refine takeI 1 48 (v := .bool false) rfl rfl (by kernel_rfl) (by kernel_rfl) (by kernel_rfl) rfl (fun W => exec_move rfl rfl) (fun W => rfl) ?_
        simp only [Act.put, List.setIfInBounds_toArray, List.set_cons_zero, List.set_cons_succ]
        refine takeINot 2 49 rfl rfl (by kernel_rfl) (by kernel_rfl) (by kernel_rfl) rfl (fun W => rfl) ?_
        simp only [Act.put, List.setIfInBounds_toArray, List.set_cons_zero, List.set_cons_succ]
        refine takeINot 3 50 rfl rfl (by kernel_rfl) (by kernel_rfl) (by kernel_rfl) rfl (fun W => rfl) ?_
        simp only [Act.put, List.setIfInBounds_toArray, List.set_cons_zero, List.set_cons_succ]
        refine takeINot 4 51 rfl rfl (by kernel_rfl) (by kernel_rfl) (by kernel_rfl) rfl (fun W => rfl) ?_
        simp only [Act.put, List.setIfInBounds_toArray, List.set_cons_zero, List.set_cons_succ]
        refine onlyINot 5 52 rfl rfl (by kernel_rfl) rfl ?_
        simp only [Act.put, List.setIfInBounds_toArray, List.set_cons_zero, List.set_cons_succ]
        refine takeI 6 53 (v := .bool false) rfl rfl (by kernel_rfl) (by kernel_rfl) (by kernel_rfl) rfl (fun W => rfl) (fun W => rfl) ?_
        simp only [Act.put, List.setIfInBounds_toArray, List.set_cons_zero, List.set_cons_succ]
        refine takeI 7 54 (v := .bool false) rfl rfl (by kernel_rfl) (by kernel_rfl) (by kernel_rfl) rfl (fun W => exec_move rfl rfl) (fun W => rfl) ?_
        simp only [Act.put, List.setIfInBounds_toArray, List.set_cons_zero, List.set_cons_succ]
        refine takeINot 8 55 rfl rfl (by kernel_rfl) (by kernel_rfl) (by kernel_rfl) rfl (fun W => rfl) ?_
        simp only [Act.put, List.setIfInBounds_toArray, List.set_cons_zero, List.set_cons_succ]
        refine takeINot 9 56 rfl rfl (by kernel_rfl) (by kernel_rfl) (by kernel_rfl) rfl (fun W => rfl) ?_
        simp only [Act.put, List.setIfInBounds_toArray, List.set_cons_zero, List.set_cons_succ]
        refine takeINot 10 57 rfl rfl (by kernel_rfl) (by kernel_rfl) (by kernel_rfl) rfl (fun W => rfl) ?_
        simp only [Act.put, List.setIfInBounds_toArray, List.set_cons_zero, List.set_cons_succ]
        refine onlyINot 11 58 rfl rfl (by kernel_rfl) rfl ?_
        simp only [Act.put, List.setIfInBounds_toArray, List.set_cons_zero, List.set_cons_succ]
        refine takeINot 12 59 rfl rfl (by kernel_rfl) (by kernel_rfl) (by kernel_rfl) rfl (fun W => rfl) ?_
        simp only [Act.put, List.setIfInBounds_toArray, List.set_cons_zero, List.set_cons_succ]
        refine takeI 13 60 (v := .bool false) rfl rfl (by kernel_rfl) (by kernel_rfl) (by kernel_rfl) rfl (fun W => rfl) (fun W => rfl) ?_
        simp only [Act.put, List.setIfInBounds_toArray, List.set_cons_zero, List.set_cons_succ]
        refine doneI (by kernel_rfl) ?_ _
        go_wp2
        go_roundw
        case rel => exact ⟨k + 1, by omega, by go_num, HJe.out⟩
        case measure => simp [intOf]; omega
      · have hno : headOf d k = none := by simp only [headOf, headOk, Hn.out, Hm.out, c, c', Bool.and_false, Bool.false_and, Bool.false_eq_true, if_false]
        have HJe : Hid (J (heads d (k + 1)) w3.drew ∧ w.heap.size ≤ w3.drew.heap.size) := Lib.hid ⟨by rw [heads_none hno]; exact HJd.out, hsz3⟩
        clear hno
        go_wp2_with (go_at_call 38; refine Hhf.out.mono ?_; rintro e w4 ⟨rfl, rfl⟩)
        refine yield_region_draws (by kernel_rfl) ?_
        refine takeI 0 47 (v := .bool false) rfl rfl (by kernel_rfl) (by kernel_rfl) (by kernel_rfl) rfl (fun W => exec_move rfl rfl) (fun W => rfl) ?_
        simp only [Act.put, List.setIfInBounds_toArray, List.set_cons_zero, List.set_cons_succ]
        refine takeI 1 48 (v := .bool false) rfl rfl (by kernel_rfl) (by kernel_rfl) (by kernel_rfl) rfl (fun W => exec_move rfl rfl) (fun W => rfl) ?_
        simp only [Act.put, List.setIfInBounds_toArray, List.set_cons_zero, List.set_cons_succ]
        refine takeINot 2 49 rfl rfl (by kernel_rfl) (by kernel_rfl) (by kernel_rfl) rfl (fun W => rfl) ?_
        simp only [Act.put, List.setIfInBounds_toArray, List.set_cons_zero, List.set_cons_succ]
        refine takeINot 3 50 rfl rfl (by kernel_rfl) (by kernel_rfl) (by kernel_rfl) rfl (fun W => rfl) ?_
        simp only [Act.put, List.setIfInBounds_toArray, List.set_cons_zero, List.set_cons_succ]
        refine takeINot 4 51 rfl rfl (by kernel_rfl) (by kernel_rfl) (by kernel_rfl) rfl (fun W => rfl) ?_
        simp only [Act.put, List.setIfInBounds_toArray, List.set_cons_zero, List.set_cons_succ]
        refine onlyINot 5 52 rfl rfl (by kernel_rfl) rfl ?_
        simp only [Act.put, List.setIfInBounds_toArray, List.set_cons_zero, List.set_cons_succ]
        refine takeI 6 53 (v := .bool false) rfl rfl (by kernel_rfl) (by kernel_rfl) (by kernel_rfl) rfl (fun W => rfl) (fun W => rfl) ?_
        simp only [Act.put, List.setIfInBounds_toArray, List.set_cons_zero, List.set_cons_succ]
        refine takeI 7 54 (v := .bool false) rfl rfl (by kernel_rfl) (by kernel_rfl) (by kernel_rfl) rfl (fun W => exec_move rfl rfl) (fun W => rfl) ?_
        simp only [Act.put, List.setIfInBounds_toArray, List.set_cons_zero, List.set_cons_succ]
        refine takeINot 8 55 rfl rfl (by kernel_rfl) (by kernel_rfl) (by kernel_rfl) rfl (fun W => rfl) ?_
        simp only [Act.put, List.setIfInBounds_toArray, List.set_cons_zero, List.set_cons_succ]
        refine takeINot 9 56 rfl rfl (by kernel_rfl) (by kernel_rfl) (by kernel_rfl) rfl (fun W => rfl) ?_
        simp only [Act.put, List.setIfInBounds_toArray, List.set_cons_zero, List.set_cons_succ]
        refine takeINot 10 57 rfl rfl (by kernel_rfl) (by kernel_rfl) (by kernel_rfl) rfl (fun W => rfl) ?_
        simp only [Act.put, List.setIfInBounds_toArray, List.set_cons_zero, List.set_cons_succ]
        refine onlyINot 11 58 rfl rfl (by kernel_rfl) rfl ?_
        simp only [Act.put, List.setIfInBounds_toArray, List.set_cons_zero, List.set_cons_succ]
        refine takeINot 12 59 rfl rfl (by kernel_rfl) (by kernel_rfl) (by kernel_rfl) rfl (fun W => rfl) ?_
        simp only [Act.put, List.setIfInBounds_toArray, List.set_cons_zero, List.set_cons_succ]
        refine takeI 13 60 (v := .bool false) rfl rfl (by kernel_rfl) (by kernel_rfl) (by kernel_rfl) rfl (fun W => rfl) (fun W => rfl) ?_
        simp only [Act.put, List.setIfInBounds_toArray, List.set_cons_zero, List.set_cons_succ]
        refine doneI (by kernel_rfl) ?_ _
        go_wp2
        go_roundw
        case rel => exact ⟨k + 1, by omega, by go_num, HJe.out⟩
        case measure => simp [intOf]; omega
      · have hno : headOf d k = none := by simp only [headOf, headOk, Hn.out, Hm.out, c, c', c2, Bool.and_false, Bool.false_and, Bool.false_eq_true, if_false]
        have HJe : Hid (J (heads d (k + 1)) w3.drew ∧ w.heap.size ≤ w3.drew.heap.size) := Lib.hid ⟨by rw [heads_none hno]; exact HJd.out, hsz3⟩
        clear hno
        go_wp2_with (go_at_call 38; refine Hhf.out.mono ?_; rintro e w4 ⟨rfl, rfl⟩)
        refine yield_region_draws (by kernel_rfl) ?_
        refine takeI 0 47 (v := .bool false) rfl rfl (by kernel_rfl) (by kernel_rfl) (by kernel_rfl) rfl (fun W => exec_move rfl rfl) (fun W => rfl) ?_
        simp only [Act.put, List.setIfInBounds_toArray, List.set_cons_zero, List.set_cons_succ]
        refine takeI 1 48 (v := .bool false) rfl rfl (by kernel_rfl) (by kernel_rfl) (by kernel_rfl) rfl (fun W => exec_move rfl rfl) (fun W => rfl) ?_
        simp only [Act.put, List.setIfInBounds_toArray, List.set_cons_zero, List.set_cons_succ]
        refine takeINot 2 49 rfl rfl (by kernel_rfl) (by kernel_rfl) (by kernel_rfl) rfl (fun W => rfl) ?_
        simp only [Act.put, List.setIfInBounds_toArray, List.set_cons_zero, List.set_cons_succ]
        refine takeINot 3 50 rfl rfl (by kernel_rfl) (by kernel_rfl) (by kernel_rfl) rfl (fun W => rfl) ?_
        simp only [Act.put, List.setIfInBounds_toArray, List.set_cons_zero, List.set_cons_succ]
        refine takeINot 4 51 rfl rfl (by kernel_rfl) (by kernel_rfl) (by kernel_rfl) rfl (fun W => rfl) ?_
        simp only [Act.put, List.setIfInBounds_toArray, List.set_cons_zero, List.set_cons_succ]
        refine onlyINot 5 52 rfl rfl (by kernel_rfl) rfl ?_
        simp only [Act.put, List.setIfInBounds_toArray, List.set_cons_zero, List.set_cons_succ]
        refine takeI 6 53 (v := .bool false) rfl rfl (by kernel_rfl) (by kernel_rfl) (by kernel_rfl) rfl (fun W => rfl) (fun W => rfl) ?_
        simp only [Act.put, List.setIfInBounds_toArray, List.set_cons_zero, List.set_cons_succ]
        refine takeI 7 54 (v := .bool false) rfl rfl (by kernel_rfl) (by kernel_rfl) (by kernel_rfl) rfl (fun W => exec_move rfl rfl) (fun W => rfl) ?_
        simp only [Act.put, List.setIfInBounds_toArray, List.set_cons_zero, List.set_cons_succ]
        refine takeINot 8 55 rfl rfl (by kernel_rfl) (by kernel_rfl) (by kernel_rfl) rfl (fun W => rfl) ?_
        simp only [Act.put, List.setIfInBounds_toArray, List.set_cons_zero, List.set_cons_succ]
        refine takeINot 9 56 rfl rfl (by kernel_rfl) (by kernel_rfl) (by kernel_rfl) rfl (fun W => rfl) ?_
        simp only [Act.put, List.setIfInBounds_toArray, List.set_cons_zero, List.set_cons_succ]
        refine takeINot 10 57 rfl rfl (by kernel_rfl) (by kernel_rfl) (by kernel_rfl) rfl (fun W => rfl) ?_
        simp only [Act.put, List.setIfInBounds_toArray, List.set_cons_zero, List.set_cons_succ]
        refine onlyINot 11 58 rfl rfl (by kernel_rfl) rfl ?_
        simp only [Act.put, List.setIfInBounds_toArray, List.set_cons_zero, List.set_cons_succ]
        refine takeINot 12 59 rfl rfl (by kernel_rfl) (by kernel_rfl) (by kernel_rfl) rfl (fun W => rfl) ?_
        simp only [Act.put, List.setIfInBounds_toArray, List.set_cons_zero, List.set_cons_succ]
        refine takeI 13 60 (v := .bool false) rfl rfl (by kernel_rfl) (by kernel_rfl) (by kernel_rfl) rfl (fun W => rfl) (fun W => rfl) ?_
        simp only [Act.put, List.setIfInBounds_toArray, List.set_cons_zero, List.set_cons_succ]
        refine doneI (by kernel_rfl) ?_ _
        go_wp2
        go_roundw
        case rel => exact ⟨k + 1, by omega, by go_num, HJe.out⟩
        case measure => simp [intOf]; omega
      · have hno : headOf d k = none := by simp only [headOf, headOk, Hn.out, Hm.out, c, c', c2, c3, Bool.and_false, Bool.false_and, Bool.false_eq_true, if_false]
        have HJe : Hid (J (heads d (k + 1)) w3.drew ∧ w.heap.size ≤ w3.drew.heap.size) := Lib.hid ⟨by rw [heads_none hno]; exact HJd.out, hsz3⟩
        clear hno
        go_wp2_with (go_at_call 38; refine Hhf.out.mono ?_; rintro e w4 ⟨rfl, rfl⟩)
        refine yield_region_draws (by kernel_rfl) ?_
        refine takeI 0 47 (v := .bool false) rfl rfl (by kernel_rfl) (by kernel_rfl) (by kernel_rfl) rfl (fun W => exec_move rfl rfl) (fun W => rfl) ?_
        simp only [Act.put, List.setIfInBounds_toArray, List.set_cons_zero, List.set_cons_succ]
        refine takeI 1 48 (v := .bool false) rfl rfl (by kernel_rfl) (by kernel_rfl) (by kernel_rfl) rfl (fun W => exec_move rfl rfl) (fun W => rfl) ?_
        simp only [Act.put, List.setIfInBounds_toArray, List.set_cons_zero, List.set_cons_succ]
        refine takeINot 2 49 rfl rfl (by kernel_rfl) (by kernel_rfl) (by kernel_rfl) rfl (fun W => rfl) ?_
        simp only [Act.put, List.setIfInBounds_toArray, List.set_cons_zero, List.set_cons_succ]
        refine takeINot 3 50 rfl rfl (by kernel_rfl) (by kernel_rfl) (by kernel_rfl) rfl (fun W => rfl) ?_
        simp only [Act.put, List.setIfInBounds_toArray, List.set_cons_zero, List.set_cons_succ]
        refine takeINot 4 51 rfl rfl (by kernel_rfl) (by kernel_rfl) (by kernel_rfl) rfl (fun W => rfl) ?_
        simp only [Act.put, List.setIfInBounds_toArray, List.set_cons_zero, List.set_cons_succ]
        refine onlyINot 5 52 rfl rfl (by kernel_rfl) rfl ?_
        simp only [Act.put, List.setIfInBounds_toArray, List.set_cons_zero, List.set_cons_succ]
        refine takeI 6 53 (v := .bool false) rfl rfl (by kernel_rfl) (by kernel_rfl) (by kernel_rfl) rfl (fun W => rfl) (fun W => rfl) ?_
        simp only [Act.put, List.setIfInBounds_toArray, List.set_cons_zero, List.set_cons_succ]
        refine takeI 7 54 (v := .bool false) rfl rfl (by kernel_rfl) (by kernel_rfl) (by kernel_rfl) rfl (fun W => exec_move rfl rfl) (fun W => rfl) ?_
        simp only [Act.put, List.setIfInBounds_toArray, List.set_cons_zero, List.set_cons_succ]
        refine takeINot 8 55 rfl rfl (by kernel_rfl) (by kernel_rfl) (by kernel_rfl) rfl (fun W => rfl) ?_
        simp only [Act.put, List.setIfInBounds_toArray, List.set_cons_zero, List.set_cons_succ]
        refine takeINot 9 56 rfl rfl (by kernel_rfl) (by kernel_rfl) (by kernel_rfl) rfl (fun W => rfl) ?_
        simp only [Act.put, List.setIfInBounds_toArray, List.set_cons_zero, List.set_cons_succ]
        refine takeINot 10 57 rfl rfl (by kernel_rfl) (by kernel_rfl) (by kernel_rfl) rfl (fun W => rfl) ?_
        simp only [Act.put, List.setIfInBounds_toArray, List.set_cons_zero, List.set_cons_succ]
        refine onlyINot 11 58 rfl rfl (by kernel_rfl) rfl ?_
        simp only [Act.put, List.setIfInBounds_toArray, List.set_cons_zero, List.set_cons_succ]
        refine takeINot 12 59 rfl rfl (by kernel_rfl) (by kernel_rfl) (by kernel_rfl) rfl (fun W => rfl) ?_
        simp only [Act.put, List.setIfInBounds_toArray, List.set_cons_zero, List.set_cons_succ]
        refine takeI 13 60 (v := .bool false) rfl rfl (by kernel_rfl) (by kernel_rfl) (by kernel_rfl) rfl (fun W => rfl) (fun W => rfl) ?_
        simp only [Act.put, List.setIfInBounds_toArray, List.set_cons_zero, List.set_cons_succ]
        refine doneI (by kernel_rfl) ?_ _
        go_wp2
        go_roundw
        case rel => exact ⟨k + 1, by omega, by go_num, HJe.out⟩
        case measure => simp [intOf]; omega
      · have hno : headOf d k = none := by simp only [headOf, headOk, Hn.out, Hm.out, c, c', c2, c3, c4, Bool.and_false, Bool.false_and, Bool.false_eq_true, if_false]
        have HJe : Hid (J (heads d (k + 1)) w3.drew ∧ w.heap.size ≤ w3.drew.heap.size) := Lib.hid ⟨by rw [heads_none hno]; exact HJd.out, hsz3⟩
        clear hno
        go_wp2_with (go_at_call 38; refine Hhf.out.mono ?_; rintro e w4 ⟨rfl, rfl⟩)
        refine yield_region_draws (by kernel_rfl) ?_
        refine takeI 0 47 (v := .bool false) rfl rfl (by kernel_rfl) (by kernel_rfl) (by kernel_rfl) rfl (fun W => exec_move rfl rfl) (fun W => rfl) ?_
        simp only [Act.put, List.setIfInBounds_toArray, List.set_cons_zero, List.set_cons_succ]
        refine takeI 1 48 (v := .bool false) rfl rfl (by kernel_rfl) (by kernel_rfl) (by kernel_rfl) rfl (fun W => exec_move rfl rfl) (fun W => rfl) ?_
        simp only [Act.put, List.setIfInBounds_toArray, List.set_cons_zero, List.set_cons_succ]
        refine takeINot 2 49 rfl rfl (by kernel_rfl) (by kernel_rfl) (by kernel_rfl) rfl (fun W => rfl) ?_
        simp only [Act.put, List.setIfInBounds_toArray, List.set_cons_zero, List.set_cons_succ]
        refine takeINot 3 50 rfl rfl (by kernel_rfl) (by kernel_rfl) (by kernel_rfl) rfl (fun W => rfl) ?_
        simp only [Act.put, List.setIfInBounds_toArray, List.set_cons_zero, List.set_cons_succ]
        refine takeINot 4 51 rfl rfl (by kernel_rfl) (by kernel_rfl) (by kernel_rfl) rfl (fun W => rfl) ?_
        simp only [Act.put, List.setIfInBounds_toArray, List.set_cons_zero, List.set_cons_succ]
        refine onlyINot 5 52 rfl rfl (by kernel_rfl) rfl ?_
        simp only [Act.put, List.setIfInBounds_toArray, List.set_cons_zero, List.set_cons_succ]
        refine takeI 6 53 (v := .bool false) rfl rfl (by kernel_rfl) (by kernel_rfl) (by kernel_rfl) rfl (fun W => rfl) (fun W => rfl) ?_
        simp only [Act.put, List.setIfInBounds_toArray, List.set_cons_zero, List.set_cons_succ]
        refine takeI 7 54 (v := .bool false) rfl rfl (by kernel_rfl) (by kernel_rfl) (by kernel_rfl) rfl (fun W => exec_move rfl rfl) (fun W => rfl) ?_
        simp only [Act.put, List.setIfInBounds_toArray, List.set_cons_zero, List.set_cons_succ]
        refine takeINot 8 55 rfl rfl (by kernel_rfl) (by kernel_rfl) (by kernel_rfl) rfl (fun W => rfl) ?_
        simp only [Act.put, List.setIfInBounds_toArray, List.set_cons_zero, List.set_cons_succ]
        refine takeINot 9 56 rfl rfl (by kernel_rfl) (by kernel_rfl) (by kernel_rfl) rfl (fun W => rfl) ?_
        simp only [Act.put, List.setIfInBounds_toArray, List.set_cons_zero, List.set_cons_succ]
        refine takeINot 10 57 rfl rfl (by kernel_rfl) (by kernel_rfl) (by kernel_rfl) rfl (fun W => rfl) ?_
        simp only [Act.put, List.setIfInBounds_toArray, List.set_cons_zero, List.set_cons_succ]
        refine onlyINot 11 58 rfl rfl (by kernel_rfl) rfl ?_
        simp only [Act.put, List.setIfInBounds_toArray, List.set_cons_zero, List.set_cons_succ]
        refine takeINot 12 59 rfl rfl (by kernel_rfl) (by kernel_rfl) (by kernel_rfl) rfl (fun W => rfl) ?_
        simp only [Act.put, List.setIfInBounds_toArray, List.set_cons_zero, List.set_cons_succ]
        refine takeI 13 60 (v := .bool false) rfl rfl (by kernel_rfl) (by kernel_rfl) (by kernel_rfl) rfl (fun W => rfl) (fun W => rfl) ?_
        simp only [Act.put, List.setIfInBounds_toArray, List.set_cons_zero, List.set_cons_succ]
        refine doneI (by kernel_rfl) ?_ _
        go_wp2
        go_roundw
        case rel => exact ⟨k + 1, by omega, by go_num, HJe.out⟩
        case measure => simp [intOf]; omega
      · have hh : headOf d k = if decide ((blkAt d k).drop 16 = zeros 496) then some (n, m) else none := by simp only [headOf, headOk, Hn.out, Hm.out, c, c', c2, c3, c4, Bool.true_and]
        have Hh := Lib.hid hh
        clear hh
        go_wp2_with (go_at_call 38; refine Hhf.out.mono ?_; rintro e w4 ⟨rfl, rfl⟩)
        refine yield_region_draws (by kernel_rfl) ?_
        refine takeI 0 47 (v := .bool true) rfl rfl (by kernel_rfl) (by kernel_rfl) (by kernel_rfl) rfl (fun W => exec_move rfl rfl) (fun W => rfl) ?_
        simp only [Act.put, List.setIfInBounds_toArray, List.set_cons_zero, List.set_cons_succ]
        refine takeI 1 48 (v := .bool true) rfl rfl (by kernel_rfl) (by kernel_rfl) (by kernel_rfl) rfl (fun W => exec_move rfl rfl) (fun W => rfl) ?_
        simp only [Act.put, List.setIfInBounds_toArray, List.set_cons_zero, List.set_cons_succ]
        refine takeI 2 49 (v := .slice a1 512 c1) rfl rfl (by kernel_rfl) (by kernel_rfl) (by kernel_rfl) rfl (fun W => exec_move rfl rfl) (fun W => rfl) ?_
        simp only [Act.put, List.setIfInBounds_toArray, List.set_cons_zero, List.set_cons_succ]
        refine takeI 3 50 (v := .slice p3 496 (c1 - 16)) rfl rfl (by kernel_rfl) (by kernel_rfl) (by kernel_rfl) rfl (fun W => exec_slice rfl rfl rfl rfl rfl (Hp3.out W)) (fun W => rfl) ?_
        simp only [Act.put, List.setIfInBounds_toArray, List.set_cons_zero, List.set_cons_succ]
        obtain ⟨w4, hmk, hz, hb4⟩ := make_zeros 496 (by omega) w3.drew
        refine onlyIRun 4 51 rfl rfl (by kernel_rfl) rfl (exec_makeSlice rfl rfl rfl hmk) ?_
        simp only [Act.put, List.setIfInBounds_toArray, List.set_cons_zero, List.set_cons_succ]
        refine onlyICall 5 52 rfl rfl (by kernel_rfl) rfl (exec_call [.slice p3 496 (c1 - 16), .slice (some ⟨w3.drew.heap.size, 0, none⟩) 496 496] rfl rfl Try.func64 (by kernel_rfl) (by kernel_rfl)) ?_
        refine (equal_any (RdB.below (w := w3.drew) Hr3.out hb4) hz.rd).mono ?_
        rintro e w5 ⟨rfl, rfl⟩
        refine ⟨_, rfl, ?_⟩
        simp only [Act.put, List.setIfInBounds_toArray, List.set_cons_zero, List.set_cons_succ]
        have hJ4 : J (heads d k) w4 := Hkeep.out _ _ _ HJd.out hsz3 (Touch.of_below hb4 fun b h1 h2 => absurd h1 (by omega))
        have hsz4 : w.heap.size ≤ w4.heap.size := Nat.le_trans hsz3 hb4.size
        cases hdec : decide ((blkAt d k).drop 16 = zeros 496) with
        | false =>
          have hno : headOf d k = none := by rw [Hh.out, hdec]; rfl
          have HJe : Hid (J (heads d (k + 1)) w4 ∧ w.heap.size ≤ w4.heap.size) := Lib.hid ⟨by rw [heads_none hno]; exact hJ4, hsz4⟩
          clear hno hJ4 hb4 hz hmk hdec
          refine takeI 6 53 (v := .bool false) rfl rfl (by kernel_rfl) (by kernel_rfl) (by kernel_rfl) rfl (fun W => rfl) (fun W => rfl) ?_
          simp only [Act.put, List.setIfInBounds_toArray, List.set_cons_zero, List.set_cons_succ]
          refine takeI 7 54 (v := .bool false) rfl rfl (by kernel_rfl) (by kernel_rfl) (by kernel_rfl) rfl (fun W => exec_move rfl rfl) (fun W => rfl) ?_
          simp only [Act.put, List.setIfInBounds_toArray, List.set_cons_zero, List.set_cons_succ]
          refine takeINot 8 55 rfl rfl (by kernel_rfl) (by kernel_rfl) (by kernel_rfl) rfl (fun W => rfl) ?_
          simp only [Act.put, List.setIfInBounds_toArray, List.set_cons_zero, List.set_cons_succ]
          refine takeINot 9 56 rfl rfl (by kernel_rfl) (by kernel_rfl) (by kernel_rfl) rfl (fun W => rfl) ?_
          simp only [Act.put, List.setIfInBounds_toArray, List.set_cons_zero, List.set_cons_succ]
          refine takeINot 10 57 rfl rfl (by kernel_rfl) (by kernel_rfl) (by kernel_rfl) rfl (fun W => rfl) ?_
          simp only [Act.put, List.setIfInBounds_toArray, List.set_cons_zero, List.set_cons_succ]
          refine onlyINot 11 58 rfl rfl (by kernel_rfl) rfl ?_
          simp only [Act.put, List.setIfInBounds_toArray, List.set_cons_zero, List.set_cons_succ]
          refine takeINot 12 59 rfl rfl (by kernel_rfl) (by kernel_rfl) (by kernel_rfl) rfl (fun W => rfl) ?_
          simp only [Act.put, List.setIfInBounds_toArray, List.set_cons_zero, List.set_cons_succ]
          refine takeI 13 60 (v := .bool false) rfl rfl (by kernel_rfl) (by kernel_rfl) (by kernel_rfl) rfl (fun W => rfl) (fun W => rfl) ?_
          simp only [Act.put, List.setIfInBounds_toArray, List.set_cons_zero, List.set_cons_succ]
          refine doneI (by kernel_rfl) ?_ _
          go_wp2
          go_roundw
          case rel => exact ⟨k + 1, by omega, by go_num, HJe.out⟩
          case measure => simp [intOf]; omega
        | true =>
          have hso : headOf d k = some (n, m) := by rw [Hh.out, hdec]; rfl
          have hok : heads d k ++ [(n, m)] = heads d (k + 1) := (heads_some hso).symm
          obtain ⟨fn, tmps, assign, body, hy, hR⟩ := HY.out (heads d k) (n, m) w4 ⟨k + 1, by omega, hok⟩ hJ4 (by omega)
          refine takeI 6 53 (v := .bool true) rfl rfl (by kernel_rfl) (by kernel_rfl) (by kernel_rfl) rfl (fun W => rfl) (fun W => rfl) ?_
          simp only [Act.put, List.setIfInBounds_toArray, List.set_cons_zero, List.set_cons_succ]
          refine takeI 7 54 (v := .bool true) rfl rfl (by kernel_rfl) (by kernel_rfl) (by kernel_rfl) rfl (fun W => exec_move rfl rfl) (fun W => rfl) ?_
          simp only [Act.put, List.setIfInBounds_toArray, List.set_cons_zero, List.set_cons_succ]
          refine takeI 8 55 (v := .func (.yield L) #[] #[]) rfl rfl (by kernel_rfl) (by kernel_rfl) (by kernel_rfl) rfl (fun W => exec_move rfl rfl) (fun W => rfl) ?_
          simp only [Act.put, List.setIfInBounds_toArray, List.set_cons_zero, List.set_cons_succ]
          refine takeI 9 56 (v := .int .i64 n) rfl rfl (by kernel_rfl) (by kernel_rfl) (by kernel_rfl) rfl (fun W => exec_move rfl rfl) (fun W => rfl) ?_
          simp only [Act.put, List.setIfInBounds_toArray, List.set_cons_zero, List.set_cons_succ]
          refine takeI 10 57 (v := .int .i64 m) rfl rfl (by kernel_rfl) (by kernel_rfl) (by kernel_rfl) rfl (fun W => exec_move rfl rfl) (fun W => rfl) ?_
          simp only [Act.put, List.setIfInBounds_toArray, List.set_cons_zero, List.set_cons_succ]
          refine onlyIYield 11 58 rfl rfl (by kernel_rfl) rfl (exec_yield [.int .i64 n, .int .i64 m] rfl rfl rfl hy) (hR.mono ?_)
          rintro e w6 ⟨_, hsz6, ⟨rfl, hJ6⟩ | ⟨rfl, hJx6⟩⟩
          · rw [hok] at hJ6
            have HJe : Hid (J (heads d (k + 1)) w6 ∧ w.heap.size ≤ w6.heap.size) := Lib.hid ⟨hJ6, by omega⟩
            clear hJ6 hJ4 hb4 hz hmk hdec hso hok hR hy
            refine ⟨_, rfl, ?_⟩
            simp only [Act.put, List.setIfInBounds_toArray, List.set_cons_zero, List.set_cons_succ]
            refine takeI 12 59 (v := .bool false) rfl rfl (by kernel_rfl) (by kernel_rfl) (by kernel_rfl) rfl (fun W => rfl) (fun W => rfl) ?_
            simp only [Act.put, List.setIfInBounds_toArray, List.set_cons_zero, List.set_cons_succ]
            refine takeI 13 60 (v := .bool false) rfl rfl (by kernel_rfl) (by kernel_rfl) (by kernel_rfl) rfl (fun W => rfl) (fun W => rfl) ?_
            simp only [Act.put, List.setIfInBounds_toArray, List.set_cons_zero, List.set_cons_succ]
            refine doneI (by kernel_rfl) ?_ _
            go_wp2
            go_roundw
            case rel => exact ⟨k + 1, by omega, by go_num, HJe.out⟩
            case measure => simp [intOf]; omega
          · have HJx := Lib.hid hJx6
            clear hJx6 hJ4 hb4 hz hmk hdec hso hok hR hy
            refine ⟨_, rfl, ?_⟩
            simp only [Act.put, List.setIfInBounds_toArray, List.set_cons_zero, List.set_cons_succ]
            refine takeI 12 59 (v := .bool true) rfl rfl (by kernel_rfl) (by kernel_rfl) (by kernel_rfl) rfl (fun W => rfl) (fun W => rfl) ?_
            simp only [Act.put, List.setIfInBounds_toArray, List.set_cons_zero, List.set_cons_succ]
            refine takeI 13 60 (v := .bool true) rfl rfl (by kernel_rfl) (by kernel_rfl) (by kernel_rfl) rfl (fun W => rfl) (fun W => rfl) ?_
            simp only [Act.put, List.setIfInBounds_toArray, List.set_cons_zero, List.set_cons_succ]
            refine doneI (by kernel_rfl) ?_ _
            go_wp2
            refine bodyPost_ret (results_none rfl _ _ _) rfl ?_
            exact ⟨rfl, .inr HJx.out⟩
    · obtain rfl : k = 2 := by omega
      have HJ := Lib.hid hJ
      clear hJ hB' hD' h0
      go_wp2
      go_end0
      exact ⟨rfl, .inl ⟨_, rfl, HJ.out⟩⟩
end Go.Proofs.Ytfpmdagchbbkcaa
