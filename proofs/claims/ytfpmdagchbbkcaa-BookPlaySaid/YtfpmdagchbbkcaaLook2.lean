/- The book: look, on a disk that is great enough. -/
import Derived.Test.YtfpmdagchbbkcaaLook
namespace Go.Proofs.Ytfpmdagchbbkcaa
open Go.RowKit

/-- What `look` answers. -/
def LookEnd (w : World) (d : DM) (e : Ending) (w' : World) : Prop :=
  Below w.heap.size w w' ∧ match looked d with
    | none => e = .returned (.tuple #[st0, .int .i64 310])
    | some (n, l) => ∃ v, e = .returned (.tuple #[.agg (stC n v false), .int .i64 0]) ∧ OwnB w' v l ∧ (∀ g, v.ownBlock = some g → w.heap.size ≤ g)

theorem look_tail {w3 : World} {g2 g5 D : Nat} {n : Int} {v3 : Value} (h2 : w3.heap[g2]? = some (.cells (stC 0 (.slice none 0 0) false) 50 (0, 0))) (h5 : w3.heap[g5]? = some (.cells (stC n (.slice none 0 0) false) 50 (0, 0)))
    (hD : w3.heap[D]? = some (.deferred (some []))) (h25 : g2 ≠ g5) (hD2 : D ≠ g2) (hD5 : D ≠ g5) (hv : v3.oneCell' = true) :
    w3.cell? ⟨g5, 1, none⟩ = some (.slice none 0 0) ∧ w3.frozen? ⟨g5, 1, none⟩ = false ∧ ∃ W5 W6, w3.setCell ⟨g5, 1, none⟩ v3 = W5 ∧ (loadVar 50 ⟨g5, 0, none⟩).run Try.prog W5 = .ok (.agg (stC n v3 false)) W5 ∧
      (storeVar 50 ⟨g2, 0, none⟩ (.agg (stC n v3 false))).run Try.prog W5 = .ok () W6 ∧ W6.heap[g2]? = some (.cells (stC n v3 false) 50 (0, 0)) ∧ W6.heap[D]? = some (.deferred (some [])) ∧ Touch (fun b => b = g5 ∨ b = g2) w3 W6 := by
  have hcell := heap_setCell_same w3 g5 1 _ _ v3 h5
  have hT1 : Touch (fun b => b = g5) w3 (w3.setCell ⟨g5, 1, none⟩ v3) := (Touch.refl _ _).setCell (.inl (by exact rfl)) _
  obtain ⟨W6, hst, hT2, h6⟩ := run_store_st (n := n) (v := v3) (b := false) (hT1.heap h2 h25) rfl hv
  exact ⟨cellOf h5 rfl, freeOf h5, _, W6, rfl, run_load_st hcell, hst, h6, hT2.heap (hT1.heap hD hD5) hD2, (hT1.mono (fun b _ h => .inl h)).step hT2 (fun b _ h => .inr h)⟩
/-- The mark is met, and the result is read out of its cell. -/
theorem leave_look {W : World} {D g2 : Nat} {tmps : Array Value} {n : Int} {v : Value} {c : Int} {R : Ending → World → Prop} (hD : W.heap[D]? = some (.deferred (some []))) (hD2 : g2 ≠ D) (hp : tmps.getD 2 undef = .pointer (some ⟨g2, 0, none⟩)) (hc : tmps.getD 3 undef = .int .i64 c)
    (h2 : W.heap[g2]? = some (.cells (stC n v false) 50 (0, 0))) (hR : R (.returned (.tuple #[.agg (stC n v false), .int .i64 c])) (W.putObj D (.deferred none))) :
    LeavesInM FW 0 Try.prog Try.f35 tmps R [{ target := .collected D, args := #[] }] .returning W := by
  have hp2 : Touch (fun b => b = D) W (W.putObj D (.deferred none)) := (Touch.refl _ _).putObj (.inl (by exact rfl)) _
  refine leave_mark hD (results_cell_tmp_row rfl tmps _ g2 50 (stC n v false) (0, 0) _ hp (hp2.heap h2 hD2) Try.underlying50 rfl (by kernel_rfl)) ?_
  rw [hc]; exact hR

set_option maxRecDepth 100000 in
set_option maxHeartbeats 2000000 in
theorem look_ok {w : World} {F : Nat → Prop} {a : Nat} {d : DM} (hd : Disk w F a d) (h4 : 4 ≤ d.size) :
    Calls Try.prog 35 #[.pointer (some ⟨a, 0, none⟩)] w (LookEnd w d) := by
  have hk := asked_ok (hd.below ((Below.refl w.heap.size w).alloc (Nat.le_refl _) (.cells #[.int .i64 0, .slice none 0 0, .bool false] 50))) h4
  have Hk := Lib.hid hk
  have Hd := Lib.hid hd
  have H4 := Lib.hid h4
  clear hk hd h4
  refine calls_of_wp_marks Try.func35 rfl ?_
  simp only [Try.ntmps35, List.size_toArray, List.length_cons, List.length_nil, Nat.reduceAdd, Nat.reduceSub, Array.replicate_succ, Array.replicate_zero, List.push_toArray, List.append_toArray, List.nil_append, List.cons_append]
  go_wp2_with (first
    | (go_at_call 52; refine Hk.out.mono ?_; rintro e w' ⟨rfl, rfl⟩)
    | (go_at_call 54; refine (counting_any _ _).mono ?_; rintro e w' ⟨rfl, rfl⟩))
  generalize hw1 : (((w.alloc _).alloc _).alloc _).alloc _ = w1
  have hb1 : Below w.heap.size w w1 := by rw [← hw1]; exact ((((Below.refl _ _).alloc (Nat.le_refl _) _).alloc (by simp) _).alloc (by simp; omega) _).alloc (by simp; omega) _
  have hs1 : w1.heap.size = w.heap.size + 1 + 1 + 1 + 1 := by rw [← hw1]; simp
  have h2 : w1.heap[w.heap.size]? = some (.cells (stC 0 (.slice none 0 0) false) 50 (0, 0)) := by
    rw [← hw1]; simp only [heap_get_alloc, World.size_alloc]; repeat (first | rfl | rw [if_pos (by omega)] | rw [if_neg (by omega)])
  have h5 : w1.heap[w.heap.size + 1]? = some (.cells (stC 0 (.slice none 0 0) false) 50 (0, 0)) := by
    rw [← hw1]; simp only [heap_get_alloc, World.size_alloc]; repeat (first | rfl | rw [if_pos (by omega)] | rw [if_neg (by omega)])
  have h6 : w1.heap[w.heap.size + 1 + 1]? = some (.cells #[.int .i64 0] 3 (0, 0)) := by
    rw [← hw1]; simp only [heap_get_alloc, World.size_alloc]; repeat (first | rfl | rw [if_pos (by omega)] | rw [if_neg (by omega)])
  have hB : w1.heap[w.heap.size + 1 + 1 + 1]? = some (.cells #[.pointer (some ⟨a, 0, none⟩)] 29 (0, 0)) := by
    rw [← hw1]; simp only [heap_get_alloc, World.size_alloc]; repeat (first | rfl | rw [if_pos (by omega)] | rw [if_neg (by omega)])
  clear hw1
  generalize hg5 : w.heap.size + 1 = g5 at *
  generalize hg6 : g5 + 1 = g6 at *
  generalize hgb : g6 + 1 = gb at *
  refine wp_range (gf := 62) (gfn := Try.f62) (lb := #[.pointer (some ⟨gb, 0, none⟩)]) rfl Try.func62 rfl rfl
    (iter_counting gb a d H4.out) (fun _ => rfl)
    (fun pre W => Below w.heap.size w W ∧ W.heap[w.heap.size]? = some (.cells (stC 0 (.slice none 0 0) false) 50 (0, 0)) ∧ W.heap[g5]? = some (.cells (stC (best pre).1 (.slice none 0 0) false) 50 (0, 0)) ∧
      W.heap[g6]? = some (.cells #[.int .i64 (best pre).2] 3 (0, 0)) ∧ W.heap[gb]? = some (.cells #[.pointer (some ⟨a, 0, none⟩)] 29 (0, 0)))
    (fun _ _ => False) (fun b => b = g5 ∨ b = g6) (fun b hb => .inl (by omega)) ?h0 ?hpre ?hkeep ?hput ?hputx ?hround ?hdone ?hstop
  case h0 =>
    intro W hB' hsz
    exact ⟨hb1.trans (hB'.mono (by omega)), belowBlk hB' (by omega) h2, belowBlk hB' (by omega) h5, belowBlk hB' (by omega) h6, belowBlk hB' (by omega) hB⟩
  case hpre => exact fun pre W ⟨k1, k2, k3, k4, k5⟩ => ⟨cellOf k5 rfl, F, Hd.out.below k1⟩
  case hkeep =>
    rintro pre W W' ⟨k1, k2, k3, k4, k5⟩ hs hk
    exact ⟨hk.below k1 (by omega) (by omega), hk.heap k2 (by omega), hk.heap k3 (by omega), hk.heap k4 (by omega), hk.heap k5 (by omega)⟩
  case hput =>
    rintro pre W o ⟨k1, k2, k3, k4, k5⟩
    have hp : Touch (fun b => b = w1.heap.size + 1) W (W.putObj (w1.heap.size + 1) o) := (Touch.refl _ _).putObj (.inl (by exact rfl)) o
    exact ⟨below_putObj k1 (by omega), hp.heap k2 (by omega), hp.heap k3 (by omega), hp.heap k4 (by omega), hp.heap k5 (by omega)⟩
  case hputx => exact fun _ _ _ h => h
  case hstop => exact fun _ _ h => h.elim
  case hround =>
    rintro r r' pre x W ⟨k, hk, hpx⟩ ⟨k1, k2, k3, k4, k5⟩ hsz hl
    obtain ⟨n, m⟩ := x
    clear hpx h2 h5 h6 hB
    refine wpIn_seq_k (fun K1 hK1 => ?_)
    refine round_region (by kernel_rfl) ?_
    go_wp2
    refine hK1 _ _ ?_
    refine round_region (by kernel_rfl) ?_
    go_wp2
    refine ⟨Touch.refl _ _, hl, fun w₂ hw2 => ?_⟩
    have hp : Touch (fun b => b = w1.heap.size + 1) W w₂ := by rw [hw2]; exact (Touch.refl _ _).putObj (.inl (by exact rfl)) _
    have kk1 : Below w.heap.size w w₂ := by rw [hw2]; exact below_putObj k1 (by omega)
    have kk2 := hp.heap k2 (by omega)
    have kk3 := hp.heap k3 (by omega)
    have kk4 := hp.heap k4 (by omega)
    have kk5 := hp.heap k5 (by omega)
    have hbs := best_snoc pre (n, m)
    have c5 : w₂.cell? ⟨g5, 0, none⟩ = some (.int .i64 (best pre).1) := cellOf kk3 rfl
    have f5 : w₂.frozen? ⟨g5, 0, none⟩ = false := freeOf kk3
    have hcell := heap_setCell_same w₂ g5 0 _ _ (Value.int .i64 n) kk3
    have hT1 : Touch (fun b => b = g5) w₂ (w₂.setCell ⟨g5, 0, none⟩ (.int .i64 n)) := (Touch.refl _ _).setCell (.inl (by exact rfl)) _
    have q6 := hT1.heap kk4 (by omega)
    have c6 : (w₂.setCell ⟨g5, 0, none⟩ (.int .i64 n)).cell? ⟨g6, 0, none⟩ = some (.int .i64 (best pre).2) := cellOf q6 rfl
    have f6 : (w₂.setCell ⟨g5, 0, none⟩ (.int .i64 n)).frozen? ⟨g6, 0, none⟩ = false := freeOf q6
    have hn : ∀ W3, W3 = (w₂.setCell ⟨g5, 0, none⟩ (.int .i64 n)) → ∃ W4, W3.setCell ⟨g6, 0, none⟩ (.int .i64 m) = W4 := fun _ _ => ⟨_, rfl⟩
    generalize hW3 : w₂.setCell ⟨g5, 0, none⟩ (.int .i64 n) = W3 at *
    have hcell6 := heap_setCell_same W3 g6 0 _ _ (Value.int .i64 m) q6
    have hT2 : Touch (fun b => b = g6) W3 (W3.setCell ⟨g6, 0, none⟩ (.int .i64 m)) := (Touch.refl _ _).setCell (.inl (by exact rfl)) _
    generalize hW4 : W3.setCell ⟨g6, 0, none⟩ (.int .i64 m) = W4 at *
    have hTT : Touch (fun b => b = g5 ∨ b = g6) w₂ W4 := (hT1.mono (fun b _ h => .inl h)).step hT2 (fun b _ h => .inr h)
    have Hyes : Hid ((best pre).1 < n → Touch (fun b => b = g5 ∨ b = g6) w₂ W4 ∧ Below w.heap.size w W4 ∧ W4.heap[w.heap.size]? = some (.cells (stC 0 (.slice none 0 0) false) 50 (0, 0)) ∧ W4.heap[g5]? = some (.cells (stC (best (pre ++ [(n, m)])).1 (.slice none 0 0) false) 50 (0, 0)) ∧
      W4.heap[g6]? = some (.cells #[.int .i64 (best (pre ++ [(n, m)])).2] 3 (0, 0)) ∧ W4.heap[gb]? = some (.cells #[.pointer (some ⟨a, 0, none⟩)] 29 (0, 0))) := Lib.hid fun hlt => by
      have hb2 : best (pre ++ [(n, m)]) = (n, m) := by rw [hbs, better, if_pos hlt]
      rw [hb2]
      exact ⟨hTT, hTT.below kk1 (by omega) kk1.size, hTT.heap kk2 (by omega), hT2.heap hcell (by omega), hcell6, hTT.heap kk5 (by omega)⟩
    have Hno : Hid (¬ (best pre).1 < n → Below w.heap.size w w₂ ∧ w₂.heap[w.heap.size]? = some (.cells (stC 0 (.slice none 0 0) false) 50 (0, 0)) ∧ w₂.heap[g5]? = some (.cells (stC (best (pre ++ [(n, m)])).1 (.slice none 0 0) false) 50 (0, 0)) ∧
      w₂.heap[g6]? = some (.cells #[.int .i64 (best (pre ++ [(n, m)])).2] 3 (0, 0)) ∧ w₂.heap[gb]? = some (.cells #[.pointer (some ⟨a, 0, none⟩)] 29 (0, 0))) := Lib.hid fun hlt => by
      have hb2 : best (pre ++ [(n, m)]) = best pre := by rw [hbs, better, if_neg hlt]
      rw [hb2]
      exact ⟨kk1, kk2, kk3, kk4, kk5⟩
    clear hw2 hn hcell hcell6 hT1 hT2 hTT q6 hbs kk1 kk2 kk3 kk4 kk5 k1 k2 k3 k4 k5 hp hl
    generalize best pre = bp at *
    by_cases hlt : bp.1 < n
    · have hd1 : decide (bp.1 < n) = true := decide_eq_true hlt
      refine wpIn_block ?_
      refine wpIn_seq_k (fun K2 hK2 => ?_)
      refine round_region (by kernel_rfl) ?_
      go_wp2
      refine hK2 _ _ ?_
      refine wpIn_cond_true rfl ?_
      refine round_region (by kernel_rfl) ?_
      go_wp2
      exact Hyes.out hlt
    · have hd1 : decide (bp.1 < n) = false := decide_eq_false hlt
      refine wpIn_block ?_
      refine wpIn_seq_k (fun K2 hK2 => ?_)
      refine round_region (by kernel_rfl) ?_
      go_wp2
      refine hK2 _ _ ?_
      refine wpIn_cond_false rfl ?_
      refine wpIn_skip ?_
      exact ⟨Touch.refl _ _, Hno.out hlt⟩
  case hdone =>
    rintro xs W rfl ⟨k1, k2, k3, k4, k5⟩ hD
    have hbh := best_heads d 2
    have hlk : looked d = if (best (heads d 2)).1 = 0 then none else some ((best (heads d 2)).1, (readB d (plc d (best (heads d 2)).1.toNat) (hf d)).take (best (heads d 2)).2.toNat) := rfl
    have hdW := Hd.out.below k1
    have c5 : W.cell? ⟨g5, 0, none⟩ = some (.int .i64 (best (heads d 2)).1) := cellOf k3 rfl
    generalize best (heads d 2) = bb at *
    clear h2 h5 h6 hB
    by_cases h0 : bb.1 = 0
    · have hb0 : (bb.1 == 0) = true := by simpa using h0
      rw [if_pos h0] at hlk
      obtain ⟨W6, hst, hT2, q6⟩ := run_store_st (n := 0) (v := .slice none 0 0) (b := false) k2 rfl rfl
      have Hfin : Hid (LookEnd w d (.returned (.tuple #[st0, .int .i64 310])) (W6.putObj w1.heap.size (.deferred none))) := Lib.hid (by
        refine ⟨below_putObj (hT2.below k1 (by intro b hb e; omega) k1.size) (by omega), ?_⟩
        rw [hlk])
      have HD := Lib.hid (hT2.heap hD (by omega))
      have H2 := Lib.hid q6
      have Hst := Lib.hid hst
      have hne : w.heap.size ≠ w1.heap.size := by omega
      clear hbh hlk hdW k1 k2 k3 k4 k5 hD h0 hT2 q6 hst hs1
      go_wp2_with (refine wpList_store (v := .agg (stC 0 (.slice none 0 0) false)) rfl 50 _ _ _ rfl rfl rfl Hst.out ?_)
      exact leave_look HD.out hne rfl rfl H2.out Hfin.out
    · have hb0 : (bb.1 == 0) = false := by simpa using h0
      rw [if_neg h0] at hlk
      obtain ⟨n, m⟩ := bb
      rcases hbh with hbh | ⟨q1, q2, q3, q4⟩
      · cases hbh; exact absurd rfl h0
      obtain ⟨nn, rfl⟩ := Int.eq_ofNat_of_zero_le (Int.le_trans (by omega) q1)
      obtain ⟨mm, rfl⟩ := Int.eq_ofNat_of_zero_le q3
      simp only [Int.toNat_natCast] at hlk
      have h4 := H4.out
      have hmost := Hd.out.1.most
      have hmod : nn % 2 * hf d ≤ hf d := by rcases Nat.mod_two_eq_zero_or_one nn with e | e <;> rw [e] <;> simp
      have hroom : plc d nn + hf d ≤ d.size := by
        have : 2 * hf d ≤ d.size - 2 := by unfold hf; omega
        unfold plc; omega
      have Hpl := Lib.hid (place_disk hdW h4 nn (by simp only at q2; omega))
      have Hhf := Lib.hid (half_disk hdW h4)
      have Hrd := Lib.hid (read_ok hdW (plc d nn) (hf d) hroom)
      have hrl : (readB d (plc d nn) (hf d)).length = 512 * hf d := readB_length hdW.1 _ _
      have hmm : mm ≤ 512 * hf d := by simp only at q4; omega
      have hhf : 512 * hf d ≤ 33554432 := by unfold hf; omega
      generalize readB d (plc d nn) (hf d) = l at *
      have key : ∀ w2 v, OwnB w2 v l → Below W.heap.size W w2 → ∃ a1 c1 a2 c2, v = .slice a1 (512 * hf d) c1 ∧ w2.cell? ⟨g6, 0, none⟩ = some (.int .i64 (mm : Int)) ∧ (∀ W', (Instr.sliceAt 34 (.slice a1 (512 * hf d) c1) none (some (.int .i64 (mm : Int))) none).run Try.prog W' = .ok (.slice a2 mm c2) W') ∧
          Calls Try.prog 37 #[.slice a2 mm c2] w2 fun e w3 => ∃ a3 n3 c3, e = .returned (.slice a3 n3 c3) ∧ w3.cell? ⟨g5, 1, none⟩ = some (.slice none 0 0) ∧ w3.frozen? ⟨g5, 1, none⟩ = false ∧ ∃ W5 W6, w3.setCell ⟨g5, 1, none⟩ (.slice a3 n3 c3) = W5 ∧ (loadVar 50 ⟨g5, 0, none⟩).run Try.prog W5 = .ok (.agg (stC nn (.slice a3 n3 c3) false)) W5 ∧
            (storeVar 50 ⟨w.heap.size, 0, none⟩ (.agg (stC nn (.slice a3 n3 c3) false))).run Try.prog W5 = .ok () W6 ∧ W6.heap[w.heap.size]? = some (.cells (stC nn (.slice a3 n3 c3) false) 50 (0, 0)) ∧ W6.heap[w1.heap.size]? = some (.deferred (some [])) ∧
            LookEnd w d (.returned (.tuple #[.agg (stC nn (.slice a3 n3 c3) false), .int .i64 0])) (W6.putObj w1.heap.size (.deferred none)) := by
        intro w2 v hown hb2
        obtain ⟨a1, c1, hs⟩ := hown.shape
        rw [hrl] at hs
        subst hs
        obtain ⟨a2, hp, hr, _⟩ := sub_rd hown.rd none (some (mm : Int)) 0 mm (by simp) (by simp) (by simp) (by simp) (by omega) hmm
        refine ⟨a1, c1, a2, c1 - 0, rfl, belowCell hb2 (ltOf (cellOf (o := 0) k4 rfl)) (cellOf k4 rfl), hp, (clone_any a2 _ _ _ w2 hr (by rw [List.length_take, List.length_drop, hrl]; omega)).mono ?_⟩
        rintro e w3 ⟨v3, rfl, hown3, hb3, hg3⟩
        have hsW := hb2.size
        have hb23 : Below W.heap.size W w3 := hb2.trans (hb3.mono hb2.size)
        have lt2 := (Array.getElem?_eq_some_iff.1 k2).1
        have lt5 := (Array.getElem?_eq_some_iff.1 k3).1
        have ltD := (Array.getElem?_eq_some_iff.1 hD).1
        obtain ⟨a3, c3, hs3⟩ := hown3.shape
        subst hs3
        obtain ⟨t1, t2, W5, W6, t3, t4, t5, t6, t7, t8⟩ := look_tail (n := (nn : Int)) (v3 := .slice a3 _ c3) (belowBlk hb23 lt2 k2) (belowBlk hb23 lt5 k3) (belowBlk hb23 ltD hD) (by omega) (by omega) (by omega) rfl
        refine ⟨a3, _, c3, rfl, t1, t2, W5, W6, t3, t4, t5, t6, t7, ?_, ?_⟩
        · exact below_putObj (t8.below (k1.trans (hb23.mono k1.size)) (by intro b hb e; omega) (Nat.le_trans k1.size hb23.size)) (by omega)
        · rw [hlk]
          have hpp : Touch (fun b => b = w1.heap.size) W6 (W6.putObj w1.heap.size (.deferred none)) := (Touch.refl _ _).putObj (.inl (by exact rfl)) _
          have hk1s := k1.size
          have e0 : ((l.drop 0).take (mm - 0)) = l.take mm := by simp
          rw [e0] at hown3
          exact ⟨_, rfl, (hown3.touch t8 (fun g hg e => by have := hg3 g hg; omega)).touch hpp (fun g hg e => by have := hg3 g hg; omega), fun g hg => by have := hg3 g hg; omega⟩
      have Hkey := Lib.hid key
      have hne : w.heap.size ≠ w1.heap.size := by omega
      clear key hs1 hlk hdW k1 k2 k3 k4 k5 hD h0 q1 q2 q3 q4 hmod hroom hrl hmm hhf hmost h4
      go_wp2_with (first
        | (go_at_call 41; refine Hpl.out.mono ?_; rintro e w' ⟨rfl, rfl⟩)
        | (go_at_call 38; refine Hhf.out.mono ?_; rintro e w' ⟨rfl, rfl⟩)
        | (go_at_call 13; refine Hrd.out.mono ?_; rintro e w2 ⟨v, rfl, hown, hb2, _⟩; obtain ⟨a1, c1, a2, c2, rfl, e6, hsl, hcl⟩ := Hkey.out _ _ hown hb2; have Hcl := Lib.hid hcl; clear hown hb2 hcl)
        | (go_at_call 37; refine Hcl.out.mono ?_; rintro e w3 ⟨a3, n3, c3, rfl, t1, t2, W5, W6, t3, t4, t5, t6, t7, t8⟩; have T4 := Lib.hid t4; have T5 := Lib.hid t5; have T6 := Lib.hid t6; have T7 := Lib.hid t7; have T8 := Lib.hid t8; clear t4 t5 t6 t7 t8)
        | (refine wpList_load rfl 50 _ _ rfl rfl T4.out ?_)
        | (refine wpList_store (v := .agg (stC _ _ false)) rfl 50 _ _ _ rfl rfl rfl T5.out ?_))
      exact leave_look T7.out hne rfl rfl T6.out T8.out
end Go.Proofs.Ytfpmdagchbbkcaa
