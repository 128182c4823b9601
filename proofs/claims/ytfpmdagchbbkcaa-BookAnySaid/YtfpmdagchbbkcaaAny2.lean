/- BookAny: the walk of what is asked. Printed by gen_any.py. -/
import Derived.Test.YtfpmdagchbbkcaaAny
namespace Go.Proofs.Ytfpmdagchbbkcaa
open Go.RowKit

/-- A disk to which k writes went. -/
structure AnyD (W1 W : World) (a n k : Nat) : Prop where
  ex : ∃ d, Disk W (fun x => W1.heap.size ≤ x ∧ x < W.heap.size) a d ∧ d.size = n ∧ (∀ j, d.fails j = none) ∧ d.steps ≤ k
  below : Below W1.heap.size W1 W
theorem AnyD.grow {W1 W W' : World} {a n k : Nat} (h : AnyD W1 W a n k) (g : Below W.heap.size W W') : AnyD W1 W' a n k := by
  obtain ⟨⟨d, h1, h2⟩, h3⟩ := h
  exact ⟨⟨d, (h1.below g).mono (fun x hx => ⟨hx.1, Nat.lt_of_lt_of_le hx.2 g.size⟩), h2⟩, h3.trans (g.mono h3.size)⟩
theorem AnyD.write {W1 W : World} {a n k : Nat} (h : AnyD W1 W a n k) (hk : k ≤ 10) (at_ m : Nat) (l : List UInt8) (hl : l.length = 512 * m) (hm : at_ + m ≤ n) (W3 : World) (hb : Below W.heap.size W W3) (B c : Nat) (hB : W.heap.size ≤ B)
    (hrd : RdB W3 (.slice (some ⟨B, 0, none⟩) (strB l).size c) l) :
    Calls Try.prog 10 #[.pointer (some ⟨a, 0, none⟩), .int .i64 (at_ : Int), .slice (some ⟨B, 0, none⟩) (strB l).size c] W3 fun e w' => e = .returned (.int .i64 0) ∧ AnyD W1 w' a n (k + 1) := by
  obtain ⟨⟨d, h1, h2, h4, h5⟩, h3⟩ := h
  refine (write_ok (h1.below hb) (fun b hx => Nat.lt_of_lt_of_le hx.2 hb.size) (by omega) _ _ c l hrd (fun g hg hx => by simp only [Value.ownBlock, Option.some.injEq] at hg; omega) at_ m hl (by omega)).mono ?_
  rintro e w' ⟨rfl, hd, ht⟩
  have hno : d.failing = false := nofail h4
  refine ⟨by rw [hno]; rfl, ⟨_, hd.cap.mono (fun x hx => ⟨hx.1.elim (fun h => h.1) (fun h => by have := hb.size; have := h3.size; omega), hx.2⟩), h2, h4, ?_⟩, ?_⟩
  · show d.steps + 1 ≤ k + 1; omega
  · exact ht.below (h3.trans (hb.mono h3.size)) (fun b hb' hx => by omega) (Nat.le_trans h3.size hb.size)
theorem run_adds (x y : List UInt8) (h : x.length + y.length ≤ 1000000) (W : World) : (binOp .add 9 (.string (strB x)) (.string (strB y))).run Try.prog W = .ok (.string (strB (x ++ y))) W := by
  have h3 : (strB x).size + (strB y).size ≤ 9223372036854775807 := by rw [strB_size, strB_size]; omega
  have e := run_string_add_sum (P := Try.prog) (w := W) (strB x) (strB y) h3
  rw [strB_append] at e
  exact e
theorem hblk_length (l : List UInt8) (h : l.length ≤ 512) : (padB l ++ (if l = [] then zeros 512 else [])).length = 512 * 1 := by
  by_cases e : l = []
  · subst e; rw [if_pos rfl, List.length_append]; unfold zeros padB; rw [List.length_append, List.length_replicate, List.length_replicate]; rfl
  · have : 0 < l.length := List.length_pos_iff.2 e
    rw [if_neg e, List.append_nil]; unfold padB; rw [List.length_append, List.length_replicate]; omega

theorem Live.put_x {w0 w5 : World} {a b N : Nat} {d : DM} {l0 : List UInt8} (h : Live w0 w5 a b d (N : Int) l0) (hb0 : w0.heap.size ≤ b) (h4 : 4 ≤ d.size) (hN : N < 4611686018427387904) (hst : d.steps < 1073741000) (hno : ∀ k, d.fails k = none) :
    ∃ W', (convert 34 34 (.slice (some ⟨w5.heap.size, 0, none⟩) 1 1)).run Try.prog (w5.alloc (.cells #[.int .u8 120] 5)) = .ok (.slice (some ⟨w5.heap.size, 0, none⟩) 1 1) W' ∧
    Calls Try.prog 18 #[.pointer (some ⟨b, 0, none⟩), .slice (some ⟨w5.heap.size, 0, none⟩) 1 1] W' fun e w' => e = .returned (.int .i64 0) ∧ Behind w0 w' a b (putD d N [120]) ((N + 1 : Nat) : Int) [120] := by
  have hblt : b < w5.heap.size := by
    obtain ⟨⟨B, v, _, _, h3, _⟩, _⟩ := h; exact (Array.getElem?_eq_some_iff.1 h3).1
  have hhf : 1 ≤ hf d := by unfold hf; omega
  obtain ⟨W', hcv, hB, hrd⟩ := run_cvb w5 [120] (by simp)
  refine ⟨W', hcv, (put_live (N := N) (h.grow hB) hb0 h4 hN (some ⟨w5.heap.size, 0, none⟩) 1 1 [120] hrd (fun g hg => by simp only [Value.ownBlock, Option.some.injEq] at hg; omega) (by omega) hst hno).mono ?_⟩
  rintro e w' ⟨rfl, B, v', k1, k2, k3, k4, k5, k6⟩
  exact ⟨rfl, ⟨B, v', k1, k2, k3, k4, k5⟩, k6⟩
theorem Live.put_x_big {w0 w5 : World} {a b : Nat} {n : Int} {d : DM} {l0 : List UInt8} (h : Live w0 w5 a b d n l0) (h4 : 4 ≤ d.size) (hN : 4611686018427387904 ≤ n) :
    ∃ W', (convert 34 34 (.slice (some ⟨w5.heap.size, 0, none⟩) 1 1)).run Try.prog (w5.alloc (.cells #[.int .u8 120] 5)) = .ok (.slice (some ⟨w5.heap.size, 0, none⟩) 1 1) W' ∧
    Calls Try.prog 18 #[.pointer (some ⟨b, 0, none⟩), .slice (some ⟨w5.heap.size, 0, none⟩) 1 1] W' fun e w' => e = .returned (.int .i64 3) ∧ Live w0 w' a b d n l0 := by
  obtain ⟨W', hcv, hB, hrd⟩ := run_cvb w5 [120] (by simp)
  have hL := h.grow hB
  obtain ⟨⟨B, v, k1, k2, k3, k4⟩, k5⟩ := h.grow hB
  refine ⟨W', hcv, (put_big k1 h4 k3 _ 1 1 (by unfold tooBig; rw [decide_eq_true hN, Bool.or_true])).mono ?_⟩
  rintro e w' ⟨rfl, hb⟩
  exact ⟨rfl, hL.grow hb⟩
theorem Live.look {w0 w : World} {a b : Nat} {d : DM} {n : Int} {l : List UInt8} (h : Live w0 w a b d n l) (h4 : 4 ≤ d.size) (hl : looked d = some (n, l)) :
    Calls Try.prog 15 #[.pointer (some ⟨a, 0, none⟩)] w fun e w' => ∃ a1 c1, e = .returned (.tuple #[.slice a1 l.length c1, .int .i64 n, .int .i64 0]) ∧ OwnB w' (.slice a1 l.length c1) l ∧ Below w.heap.size w w' := by
  obtain ⟨⟨B, v, h1, _⟩, _⟩ := h
  exact Look_some h1 h4 hl
theorem Live.bytes {w0 w : World} {a b : Nat} {d : DM} {n : Int} {l : List UInt8} (h : Live w0 w a b d n l) (hlen : l.length ≤ 140737488355328) :
    Calls Try.prog 17 #[.pointer (some ⟨b, 0, none⟩)] w fun e w' => ∃ a1 c1, e = .returned (.slice a1 l.length c1) ∧ OwnB w' (.slice a1 l.length c1) l ∧ Live w0 w' a b d n l := by
  have hL := h
  obtain ⟨⟨B, v, h1, h2, h3, h4, h5, h6⟩, h7⟩ := h
  refine (bytes_at h3 l h5 hlen).mono ?_
  rintro e w' ⟨v', rfl, k1, k2, k3⟩
  obtain ⟨a1, c1, rfl⟩ := k1.shape
  exact ⟨a1, c1, rfl, k1, hL.grow k2⟩
theorem looked_best {d : DM} {n : Int} {l : List UInt8} (h : looked d = some (n, l)) : (best (heads d 2)).1 = n ∧ 1 ≤ n ∧ n ≤ 4611686018427387904 := by
  unfold looked at h
  by_cases h0 : (best (heads d 2)).1 = 0
  · rw [if_pos h0] at h; cases h
  · rw [if_neg h0] at h
    simp only [Option.some.injEq, Prod.mk.injEq] at h
    rcases best_heads d 2 with hb | hb
    · rw [hb] at h0; exact absurd rfl h0
    · exact ⟨h.1, by omega, by omega⟩
theorem looked_short {d : DM} (hok : d.Ok) {n : Int} {l : List UInt8} (h : looked d = some (n, l)) : l.length ≤ 33554432 := by
  unfold looked at h
  by_cases h0 : (best (heads d 2)).1 = 0
  · rw [if_pos h0] at h; cases h
  · rw [if_neg h0] at h
    simp only [Option.some.injEq, Prod.mk.injEq] at h
    rw [← h.2, List.length_take, readB_length hok]
    have := hok.most
    unfold hf
    omega

set_option maxRecDepth 100000 in
set_option maxHeartbeats 4000000 in
theorem any_main (n : Nat) (l0 l1 ls : List UInt8) (kd num : Int) (q : Option Addr) (m c : Nat) (w : World)
    (hv : vastB (n : Int) [(ls.length, m)] = false) (h0 : l0.length ≤ 512) (h1 : l1.length ≤ 512) (h4 : 4 ≤ n) (h12 : n ≤ 12) (hls : ls.length ≤ 3000) :
    Calls Try.prog 3 #[.int .i64 (n : Int), .agg #[.string (strB l0), .string (strB l1)], .agg (stepV kd num ls q m c)] w fun e w' => e = .returned (.bool true) ∧ Below w.heap.size w w' := by
  have hv0 := vast_in n l0 l1 ls kd num q m c w
  rw [hv] at hv0
  have Hv := Lib.hid hv0
  have Hk := Lib.hid known_any
  have hs0 : (strB l0).size = l0.length := strB_size _
  have hs1 : (strB l1).size = l1.length := strB_size _
  have c1 : decide ((l0.length : Int) > 512) = false := by simp; omega
  have c2 : decide ((l1.length : Int) > 512) = false := by simp; omega
  have c3 : decide ((n : Int) < 4) = false := by simp; omega
  have c4 : decide ((n : Int) > 65536) = false := by simp; omega
  have hW1 : (anyW l0 l1 ls kd num q m c w).heap.size = w.heap.size + 3 := by simp
  have hB1 : Below w.heap.size w (anyW l0 l1 ls kd num q m c w) := (((Below.refl _ _).alloc (Nat.le_refl _) _).alloc (by simp) _).alloc (by simp; omega) _
  have hc0 : (anyW l0 l1 ls kd num q m c w).cell? ⟨w.heap.size, 0, none⟩ = some (.string (strB l0)) := by simp [go_sem]
  have hc1 : (anyW l0 l1 ls kd num q m c w).cell? ⟨w.heap.size, 1, none⟩ = some (.string (strB l1)) := by simp [go_sem]
  have hc2 : (anyW l0 l1 ls kd num q m c w).cell? ⟨w.heap.size + 1, 2, none⟩ = some (.string (strB ls)) := by simp [go_sem]
  have HN := Lib.hid (new_ok n (by omega) (by omega) (anyW l0 l1 ls kd num q m c w))
  have HW := Lib.hid (And.intro hW1 (And.intro hB1 (And.intro hc0 (And.intro hc1 hc2))))
  have H0 := Lib.hid (And.intro h0 h1)
  clear hv hv0 hW1 hB1 hc0 hc1 hc2 h0 h1
  unfold stepV
  go_enter Try.func3, Try.ntmps3
  go_wp2_with (first
    | (go_at_call 7; refine Hv.out.mono ?_; rintro e w1 ⟨rfl, rfl⟩)
    | (go_at_call 9; refine HN.out.mono ?_; rintro e w1 ⟨rfl, hd1, hb1, _⟩
       have HA : Hid (AnyD (anyW l0 l1 ls kd num q m c w) w1 (w.heap.size + 1 + 1 + 1 + 4) n 0) := Lib.hid (by
         have e : (anyW l0 l1 ls kd num q m c w).heap.size = w.heap.size + 1 + 1 + 1 := by simp
         rw [← e]; exact ⟨⟨_, hd1.cap, rfl, new_no n, Nat.le_refl _⟩, hb1⟩)
       clear hd1 hb1 HN))
  generalize hW : anyW l0 l1 ls kd num q m c w = W1 at *
  clear Hv
  have HWe := Lib.hid hW
  clear hW
  generalize ha : w.heap.size + 1 + 1 + 1 + 4 = a at *
  clear ha
  clear hs0 hs1 c1 c2
  go_loopw [9] (fun i wr => ∃ k : Nat, k ≤ 2 ∧ i = .int .i64 (k : Int) ∧ AnyD W1 wr a n k) (fun i _ => 2 - (intOf i).toNat)
  case atStart => exact ⟨0, by omega, rfl, HA.out⟩
  case round =>
    obtain ⟨k, hk, rfl, hA⟩ := hrel
    by_cases hk2 : k < 2
    · obtain ⟨lk, hlk, hcl⟩ : ∃ lk : List UInt8, lk.length ≤ 512 ∧ W1.cell? ⟨w.heap.size, k, none⟩ = some (.string (strB lk)) := by
        rcases (by omega : k = 0 ∨ k = 1) with rfl | rfl
        · exact ⟨l0, H0.out.1, HW.out.2.2.1⟩
        · exact ⟨l1, H0.out.2, HW.out.2.2.2.1⟩
      have HA2 := Lib.hid hA
      have Hcl := Lib.hid hcl
      clear hA hcl
      go_wp2
      have hA : AnyD W1 wr.drew a n k := HA2.out.grow ((Below.refl _ _).drew)
      have hcl := Hcl.out
      have hlen := hblk_length lk hlk
      have hB1 : w.heap.size < W1.heap.size := by have := HW.out.1; omega
      have hS : wr.drew.cell? ⟨w.heap.size, k, none⟩ = some (.string (strB lk)) := belowCell hA.below hB1 hcl
      have hia : ∀ W, (Instr.indexAt 22 (.pointer (some ⟨w.heap.size, 0, none⟩)) (.int .i64 (k : Int))).run Try.prog W = .ok (.pointer (some ⟨w.heap.size, k, none⟩)) W := by
        intro W
        rcases (by omega : k = 0 ∨ k = 1) with rfl | rfl <;> simp [go_sem]
      have hadd := run_adds (padB lk) (if lk = [] then zeros 512 else []) (by rw [← List.length_append, hlen]; omega)
      have hne : ∀ W, (binOp .neq 30 (.int .i64 0) (.int .i64 0)).run Try.prog W = .ok (.bool false) W := fun W => by simp [go_sem]
      refine plain_region_draws (fun W => W.cell? ⟨w.heap.size, k, none⟩ = some (.string (strB lk))) (by kernel_rfl) hS (fun hS => ?_)
      refine take 0 63 (v := .pointer (some ⟨a, 0, none⟩)) rfl rfl (by kernel_rfl) (by kernel_rfl) (by kernel_rfl) rfl (fun W hW => exec_move rfl rfl) (by assumption) ?_
      simp only [Act.put, List.setIfInBounds_toArray, List.set_cons_zero, List.set_cons_succ]
      refine take 1 64 (v := .int .i64 (k : Int)) rfl rfl (by kernel_rfl) (by kernel_rfl) (by kernel_rfl) rfl (fun W hW => exec_move rfl rfl) (by assumption) ?_
      simp only [Act.put, List.setIfInBounds_toArray, List.set_cons_zero, List.set_cons_succ]
      refine take 2 65 (v := .int .i64 (k : Int)) rfl rfl (by kernel_rfl) (by kernel_rfl) (by kernel_rfl) rfl (fun W hW => exec_move rfl rfl) (by assumption) ?_
      simp only [Act.put, List.setIfInBounds_toArray, List.set_cons_zero, List.set_cons_succ]
      refine take 3 66 (v := .pointer (some ⟨w.heap.size, k, none⟩)) rfl rfl (by kernel_rfl) (by kernel_rfl) (by kernel_rfl) rfl (fun W hW => exec_indexAddr rfl rfl rfl (hia W)) (by assumption) ?_
      simp only [Act.put, List.setIfInBounds_toArray, List.set_cons_zero, List.set_cons_succ]
      refine take 4 67 (v := .string (strB lk)) rfl rfl (by kernel_rfl) (by kernel_rfl) (by kernel_rfl) rfl (fun W hW => exec_load rfl rfl (run_load1 Try.underlying9 rfl hW)) (by assumption) ?_
      simp only [Act.put, List.setIfInBounds_toArray, List.set_cons_zero, List.set_cons_succ]
      refine take 6 69 (v := .int .i64 (k : Int)) rfl rfl (by kernel_rfl) (by kernel_rfl) (by kernel_rfl) rfl (fun W hW => exec_move rfl rfl) (by assumption) ?_
      simp only [Act.put, List.setIfInBounds_toArray, List.set_cons_zero, List.set_cons_succ]
      refine take 7 70 (v := .pointer (some ⟨w.heap.size, k, none⟩)) rfl rfl (by kernel_rfl) (by kernel_rfl) (by kernel_rfl) rfl (fun W hW => exec_indexAddr rfl rfl rfl (hia W)) (by assumption) ?_
      simp only [Act.put, List.setIfInBounds_toArray, List.set_cons_zero, List.set_cons_succ]
      refine take 8 71 (v := .string (strB lk)) rfl rfl (by kernel_rfl) (by kernel_rfl) (by kernel_rfl) rfl (fun W hW => exec_load rfl rfl (run_load1 Try.underlying9 rfl hW)) (by assumption) ?_
      simp only [Act.put, List.setIfInBounds_toArray, List.set_cons_zero, List.set_cons_succ]
      refine onlyCall 5 68 rfl rfl (by kernel_rfl) rfl (exec_call [.string (strB lk)] rfl rfl Try.func11 (by kernel_rfl) (by kernel_rfl)) ?_
      refine (ref_padded lk (by omega) _).mono ?_
      rintro e w1 ⟨rfl, hb1⟩
      have hS1 := belowCell (o := k) hb1 (ltOf hS) hS
      refine ⟨_, rfl, .inr hS1, ?_⟩
      simp only [Act.put, List.setIfInBounds_toArray, List.set_cons_zero, List.set_cons_succ]
      refine onlyCall 9 72 rfl rfl (by kernel_rfl) rfl (exec_call [.string (strB lk)] rfl rfl Try.func12 (by kernel_rfl) (by kernel_rfl)) ?_
      refine (law_fill lk _).mono ?_
      rintro e w2 ⟨rfl, hb2⟩
      have hS2 := belowCell (o := k) hb2 (ltOf hS1) hS1
      refine ⟨_, rfl, .inr hS2, ?_⟩
      simp only [Act.put, List.setIfInBounds_toArray, List.set_cons_zero, List.set_cons_succ]
      refine take 10 73 (v := .string (strB (padB lk ++ (if lk = [] then zeros 512 else [])))) rfl rfl (by kernel_rfl) (by kernel_rfl) (by kernel_rfl) rfl (fun W hW => exec_bins rfl rfl rfl (hadd W)) (by assumption) ?_
      simp only [Act.put, List.setIfInBounds_toArray, List.set_cons_zero, List.set_cons_succ]
      obtain ⟨c1, w3, hcv, hb3, hrd⟩ := run_cvs w2 (strB (padB lk ++ (if lk = [] then zeros 512 else []))) (by rw [strB_size, hlen]; omega)
      have hS3 := belowCell (o := k) hb3 (ltOf hS2) hS2
      refine onlyRun 11 74 (v := .slice (some ⟨w2.heap.size, 0, none⟩) (strB (padB lk ++ (if lk = [] then zeros 512 else []))).size c1) rfl rfl (by kernel_rfl) rfl (exec_convert rfl rfl hcv) (.inr hS3) ?_
      simp only [Act.put, List.setIfInBounds_toArray, List.set_cons_zero, List.set_cons_succ]
      refine onlyCall 12 75 rfl rfl (by kernel_rfl) rfl (exec_call [.pointer (some ⟨a, 0, none⟩), .int .i64 (k : Int), .slice (some ⟨w2.heap.size, 0, none⟩) (strB (padB lk ++ (if lk = [] then zeros 512 else []))).size c1] rfl rfl Try.func10 (by kernel_rfl) (by kernel_rfl)) ?_
      refine (hA.write (by omega) k 1 _ hlen (by omega) w3 (hb1.trans (hb2.mono hb1.size) |>.trans (hb3.mono (Nat.le_trans hb1.size hb2.size))) w2.heap.size c1 (Nat.le_trans hb1.size hb2.size) hrd).mono ?_
      rintro e w4 ⟨rfl, hA4⟩
      have hS4 := belowCell hA4.below hB1 hcl
      refine ⟨_, rfl, .inr hS4, ?_⟩
      simp only [Act.put, List.setIfInBounds_toArray, List.set_cons_zero, List.set_cons_succ]
      refine take 13 76 (v := .bool false) rfl rfl (by kernel_rfl) (by kernel_rfl) (by kernel_rfl) rfl (fun W hW => exec_bini rfl rfl rfl (hne W)) (by assumption) ?_
      simp only [Act.put, List.setIfInBounds_toArray, List.set_cons_zero, List.set_cons_succ]
      refine done (by kernel_rfl) ?_ _
      have HA4 := Lib.hid hA4
      clear hS hS1 hS2 hS3 hS4 hb1 hb2 hb3 hcv hrd hA hcl hlen hlk hia hadd hne hA4
      go_wp2
      go_roundw
      case rel => exact ⟨k + 1, by omega, by go_num, HA4.out⟩
      case measure => simp [intOf]; omega
    · obtain rfl : k = 2 := by omega
      have HA2 := Lib.hid hA
      clear hA
      obtain ⟨L, hL1, hL2, hL3⟩ : ∃ L : Nat, (if ((n : Int) - 2) * 512 < (ls.length : Int) then ((n : Int) - 2) * 512 else (ls.length : Int)) = (L : Int) ∧ L ≤ ls.length ∧ L ≤ (n - 2) * 512 := by
        by_cases hh : ((n : Int) - 2) * 512 < (ls.length : Int)
        · rw [if_pos hh]; exact ⟨(n - 2) * 512, by omega, by omega, Nat.le_refl _⟩
        · rw [if_neg hh]; exact ⟨ls.length, rfl, Nat.le_refl _, by omega⟩
      have hcs : wr.cell? ⟨w.heap.size + 1, 2, none⟩ = some (.string (strB ls)) := belowCell HA2.out.below (by have := HW.out.1; omega) HW.out.2.2.2.2
      have hss : (strB ls).size = ls.length := strB_size _
      have hsl := str_slice ls none (some (L : Int)) 0 L (by simp) (by simp) (fun x h => by cases h; rfl) (by simp) (by omega) hL2
      rw [Nat.sub_zero, List.drop_zero] at hsl
      have Hsl := Lib.hid hsl
      have htl : (ls.take L).length = L := by rw [List.length_take]; omega
      have Hpd := Lib.hid (ref_padded (ls.take L) (by omega) wr)
      have hpl : (padB (ls.take L)).length = L + (512 - L % 512) % 512 := by unfold padB; rw [List.length_append, List.length_replicate, htl]
      have HLa : Hid ((padB (ls.take L)).length = 512 * ((padB (ls.take L)).length / 512) ∧ 2 + (padB (ls.take L)).length / 512 ≤ n ∧ (padB (ls.take L)).length ≤ 10000) := Lib.hid ⟨by omega, by omega, by omega⟩
      clear hsl htl hpl hL2 hL3
      go_wp2_with (first
        | (refine wpList_run rfl (exec_slice rfl rfl rfl rfl rfl (Hsl.out _)) ?_)
        | (go_at_call 11; refine Hpd.out.mono ?_; rintro e w1 ⟨rfl, hb1⟩
           obtain ⟨cv, w3, hcv, hb3, hrd⟩ := run_cvs w1 (strB (padB (ls.take L))) (by rw [strB_size]; have := HLa.out.2.2; omega)
           have Hwr := Lib.hid (HA2.out.write (by omega) 2 _ _ HLa.out.1 HLa.out.2.1 w3 (hb1.trans (hb3.mono hb1.size)) w1.heap.size cv hb1.size hrd)
           clear hb1 hb3 hrd Hpd)
        | (go_at_call 10; refine Hwr.out.mono ?_; rintro e w4 ⟨rfl, hA4⟩; clear hcv Hwr
           obtain ⟨d, hd4, hsz4, hno4, hst4⟩ := hA4.ex
           have Hd4 := Lib.hid (And.intro hd4 (And.intro hsz4 (And.intro hno4 (And.intro hst4 hA4.below))))
           have hrd4 := read_ok hd4 0 n (by omega)
           have Hrd := Lib.hid hrd4
           clear hd4 hsz4 hno4 hst4 hA4 hrd4)
        | (go_at_call 13; refine Hrd.out.mono ?_; rintro e w5 ⟨v5, rfl, hown5, hb5, _⟩
           obtain ⟨a5, c5, rfl⟩ := hown5.shape
           have hstr5 := run_str hown5.rd
           have Hb5 := Lib.hid hb5
           clear hown5 hb5 Hrd))
      clear hstr5
      have h4d : 4 ≤ d.size := by have := Hd4.out.2.1; omega
      have hbk := ref_book Hd4.out.1.1 h4d w5
      rw [Hd4.out.2.1] at hbk
      refine hbk.mono ?_
      rintro e w6 ⟨hb6, hlk⟩
      have hb46 : Below w4.heap.size w4 w6 := Hb5.out.trans (hb6.mono Hb5.out.size)
      have H6 : Hid (Disk w6 (fun x => W1.heap.size ≤ x ∧ x < w6.heap.size) a d ∧ Below W1.heap.size W1 w6) :=
        Lib.hid ⟨(Hd4.out.1.below hb46).mono (fun x hx => ⟨hx.1, Nat.lt_of_lt_of_le hx.2 hb46.size⟩), Hd4.out.2.2.2.2.trans (hb46.mono Hd4.out.2.2.2.2.size)⟩
      have HBend : Hid (∀ w', Below W1.heap.size W1 w' → Below w.heap.size w w') := Lib.hid (fun w' g => HW.out.2.1.trans (g.mono HW.out.2.1.size))
      have Hmost : Hid (d.size ≤ 65536) := Lib.hid Hd4.out.1.1.most
      clear hbk hb6 hb46 hcs hss hL1
      cases hl : looked d with
      | none =>
        rw [hl] at hlk
        subst hlk
        have HLk := Lib.hid (Look_none H6.out.1 h4d hl)
        have He : Hid (looked d = none) := Lib.hid hl
        clear hl
        go_wp2_with (first
          | (go_at_call 15; refine HLk.out.mono ?_; rintro e w7 ⟨rfl, hb7⟩
             have H7 := Lib.hid (H6.out.2.trans (hb7.mono H6.out.2.size)); have HO := Lib.hid (open_none (H6.out.1.below hb7) h4d He.out); clear hb7 HLk)
          | (go_at_call 16; refine HO.out.mono ?_; rintro e w8 ⟨rfl, hb8⟩; have H8 := Lib.hid (H7.out.trans (hb8.mono H7.out.size)); clear hb8 HO)
          | (go_at_call 8; refine (Hk.out _).mono ?_; rintro e w9 ⟨rfl, hb9⟩; have H9 := Lib.hid (H8.out.trans (hb9.mono H8.out.size)); clear hb9))
        go_ret
        exact ⟨rfl, HBend.out _ H9.out⟩
      | some x =>
        obtain ⟨n1, l⟩ := x
        rw [hl] at hlk
        subst hlk
        obtain ⟨hbe, hn1, hn2⟩ := looked_best hl
        obtain ⟨N, rfl⟩ : ∃ N : Nat, n1 = (N : Int) := ⟨n1.toNat, by omega⟩
        have hn0 : ((N : Int) == 0) = false := by rw [beq_eq_false_iff_ne]; omega
        have hshort := looked_short H6.out.1.1 hl
        have HLk := Lib.hid (Look_some H6.out.1 h4d hl)
        have He := Lib.hid (And.intro hl (And.intro hbe hshort))
        have Hno := Lib.hid (And.intro Hd4.out.2.2.1 (Nat.lt_of_le_of_lt Hd4.out.2.2.2.1 (by omega : 2 + 1 < 1073741000)))
        have hxx : ((strB [120]).toList == [120]) = true := by rw [strB_toList]; rfl
        have hxx' : ((strB [120]).toList = [120]) = True := eq_true (strB_toList _)
        clear hl hbe hshort
        by_cases hbig : 4611686018427387904 ≤ (N : Int)
        · have hd1 : decide ((N : Int) ≥ 4611686018427387904) = true := by simpa using hbig
          have Hbig := Lib.hid hbig
          clear hbig hn1 hn2
          go_wp2_with (first
            | (go_at_call 15; refine HLk.out.mono ?_; rintro e w7 ⟨a1, c1, rfl, hown7, hb7⟩
               have H7 : Hid (Disk w7 (fun x => W1.heap.size ≤ x ∧ x < w7.heap.size) a d ∧ Below W1.heap.size W1 w7 ∧ OwnB w7 (.slice a1 l.length c1) l) := Lib.hid ⟨(H6.out.1.below hb7).mono (fun x hx => ⟨hx.1, Nat.lt_of_lt_of_le hx.2 hb7.size⟩), H6.out.2.trans (hb7.mono H6.out.2.size), hown7⟩
               have HO := Lib.hid (open_some H7.out.1 h4d He.out.1); clear hown7 hb7 HLk)
            | (go_at_call 16; refine HO.out.mono ?_; rintro e w8 ⟨b, v, rfl, hbk, hown, hb8, hle, hg⟩
               have HL : Hid (Live W1 w8 a b d (N : Int) l) := Lib.hid (Live.opened H7.out.1 H7.out.2.1 hbk hown hb8 hle hg)
               have hstr7 := run_str (H7.out.2.2.below hb8).rd
               have HBy := Lib.hid (HL.out.bytes (by have := He.out.2.2; omega))
               have Hle := Lib.hid (Nat.le_trans H7.out.2.1.size hle)
               clear hbk hown hb8 hle hg HO)
            | (go_at_call 17; refine HBy.out.mono ?_; rintro e w9 ⟨a2, c2, rfl, hown9, hL9⟩
               have hstr9 := run_str hown9.rd
               obtain ⟨W', hcv, hput⟩ := hL9.put_x_big h4d Hbig.out
               have HPut := Lib.hid hput
               clear hown9 hL9 hput HBy)
            | (go_at_call 18; refine HPut.out.mono ?_; rintro e w10 ⟨rfl, hL10⟩
               have HL10 := Lib.hid hL10
               have HLk2 := Lib.hid (hL10.look h4d He.out.1)
               clear hL10 HPut hcv hstr7 hstr9)
            | (go_at_call 15; refine HLk2.out.mono ?_; rintro e w11 ⟨a3, c3, rfl, hown11, hb11⟩
               have hstr11 := run_str hown11.rd
               have H11 := Lib.hid (HL10.out.below.trans (hb11.mono HL10.out.below.size))
               clear hown11 hb11 HLk2)
            | (go_at_call 8; refine (Hk.out _).mono ?_; rintro e w12 ⟨rfl, hb12⟩; have H12 := Lib.hid (H11.out.trans (hb12.mono H11.out.size)); clear hb12))
          go_ret
          exact ⟨rfl, HBend.out _ H12.out⟩
        · have hd1 : decide ((N : Int) ≥ 4611686018427387904) = false := by simpa using hbig
          have hlt : N < 4611686018427387904 := by omega
          have Hlt := Lib.hid hlt
          have hN1 : ((N + 1 : Nat) : Int) = (N : Int) + 1 := by omega
          clear hbig hn1 hn2
          have hN2 : (N : Int) < 4611686018427387904 := by omega
          clear hlt
          go_wp2_with (first
            | (go_at_call 15; refine HLk.out.mono ?_; rintro e w7 ⟨a1, c1, rfl, hown7, hb7⟩
               have H7 : Hid (Disk w7 (fun x => W1.heap.size ≤ x ∧ x < w7.heap.size) a d ∧ Below W1.heap.size W1 w7 ∧ OwnB w7 (.slice a1 l.length c1) l) := Lib.hid ⟨(H6.out.1.below hb7).mono (fun x hx => ⟨hx.1, Nat.lt_of_lt_of_le hx.2 hb7.size⟩), H6.out.2.trans (hb7.mono H6.out.2.size), hown7⟩
               have HO := Lib.hid (open_some H7.out.1 h4d He.out.1); clear hown7 hb7 HLk)
            | (go_at_call 16; refine HO.out.mono ?_; rintro e w8 ⟨b, v, rfl, hbk, hown, hb8, hle, hg⟩
               have HL : Hid (Live W1 w8 a b d (N : Int) l) := Lib.hid (Live.opened H7.out.1 H7.out.2.1 hbk hown hb8 hle hg)
               have hstr7 := run_str (H7.out.2.2.below hb8).rd
               have HBy := Lib.hid (HL.out.bytes (by have := He.out.2.2; omega))
               have Hle := Lib.hid (Nat.le_trans H7.out.2.1.size hle)
               clear hbk hown hb8 hle hg HO)
            | (go_at_call 17; refine HBy.out.mono ?_; rintro e w9 ⟨a2, c2, rfl, hown9, hL9⟩
               have hstr9 := run_str hown9.rd
               obtain ⟨W', hcv, hput⟩ := hL9.put_x Hle.out h4d Hlt.out Hno.out.2 Hno.out.1
               have HPut := Lib.hid hput
               clear hown9 hL9 hput HBy)
            | (go_at_call 18; refine HPut.out.mono ?_; rintro e w10 ⟨rfl, hL10⟩
               have HL10 := Lib.hid hL10
               have HLk2 := Lib.hid (hL10.look (by rw [put_size]; exact h4d) (looked_put h4d Hmost.out Hno.out.1 N Hlt.out He.out.2.1 [120] (by unfold hf; simp; omega)))
               clear hL10 HPut hcv hstr7 hstr9)
            | (go_at_call 15; refine HLk2.out.mono ?_; rintro e w11 ⟨a3, c3, rfl, hown11, hb11⟩
               have hstr11 : (convert 34 9 (.slice a3 1 c3)).run Try.prog w11 = .ok (.string (strB [120])) w11 := run_str hown11.rd
               have H11 := Lib.hid (HL10.out.below.trans (hb11.mono HL10.out.below.size))
               clear hown11 hb11 HLk2)
            | (go_at_call 8; refine (Hk.out _).mono ?_; rintro e w12 ⟨rfl, hb12⟩; have H12 := Lib.hid (H11.out.trans (hb12.mono H11.out.size)); clear hb12))
          go_ret
          exact ⟨rfl, HBend.out _ H12.out⟩
end Go.Proofs.Ytfpmdagchbbkcaa
