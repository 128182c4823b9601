/- slices.Equal, at numbers and at blocks; maps.EqualFunc. Printed by gen_eqs.py. -/
import Derived.Test.YtmgajgeoibbmjaaComing
namespace Go.Proofs.Ytmgajgeoibbmjaa
open Go.RowKit

set_option maxRecDepth 100000 in
set_option maxHeartbeats 1000000 in
theorem equal_ints {w : World} (p q : Option Addr) (n c m e : Nat) (xs ys : List Int) (h1 : RdI w (.slice p n c) xs) (h2 : RdI w (.slice q m e) ys) (hx : xs.length ≤ 1000000) (hy : ys.length ≤ 1000000) :
    Calls Try.prog 36 #[.slice p n c, .slice q m e] w fun e w' => e = .returned (.bool (decide (xs = ys))) ∧ Below w.heap.size w w' := by
  obtain ⟨_, _, heq, a1, a2⟩ := h1
  cases heq
  obtain ⟨_, _, heq, b1, b2⟩ := h2
  cases heq
  by_cases hl : xs.length = ys.length
  · cases p with
    | none =>
      have hx0 := a1 rfl
      subst hx0
      have hy0 : ys = [] := List.eq_nil_of_length_eq_zero (by rw [← hl]; rfl)
      subst hy0
      refine (Try.slices_Equal_int_empty none q c 0 e w (by omega)).mono ?_
      rintro e w' ⟨rfl, rfl⟩
      exact ⟨rfl, Below.refl _ _⟩
    | some ad =>
      cases q with
      | none =>
        have hy0 := b1 rfl
        subst hy0
        have hx0 : xs = [] := List.eq_nil_of_length_eq_zero (by rw [hl]; rfl)
        subst hx0
        refine (Try.slices_Equal_int_empty (some ad) none c 0 e w (by omega)).mono ?_
        rintro e w' ⟨rfl, rfl⟩
        exact ⟨rfl, Below.refl _ _⟩
      | some ae =>
        by_cases hx0 : xs = []
        · subst hx0
          have hy0 : ys = [] := List.eq_nil_of_length_eq_zero (by rw [← hl]; rfl)
          subst hy0
          refine (Try.slices_Equal_int_empty (some ad) (some ae) c 0 e w (by omega)).mono ?_
          rintro e w' ⟨rfl, rfl⟩
          exact ⟨rfl, Below.refl _ _⟩
        · have hy0 : ys ≠ [] := fun h => hx0 (List.eq_nil_of_length_eq_zero (by rw [hl, h]; rfl))
          obtain ⟨s1, k1⟩ := a2 ad rfl
          obtain ⟨s2, k2⟩ := b2 ae rfl
          obtain ⟨ab, ao, asp⟩ := ad
          obtain ⟨bb, bo, bsp⟩ := ae
          have s1 := s1 hx0
          have s2 := s2 hy0
          simp only at s1 s2
          subst s1; subst s2
          refine (Try.slices_Equal_int ab ao xs.length c bb bo ys.length e xs ys w (Nat.le_refl _) (Nat.le_refl _) (by omega) (by omega) (fun j hj => k1 j _ (by simp [List.getD, hj])) (fun j hj => k2 j _ (by simp [List.getD, hj]))).mono ?_
          rintro e w' ⟨rfl, n, rfl⟩
          rw [List.take_length, List.take_length]
          refine ⟨ret_bool (by rw [Bool.eq_iff_iff]; simp), ⟨rfl, rfl, rfl, Nat.le_refl _, fun _ _ => rfl⟩⟩
  · have hne : decide (xs = ys) = false := decide_eq_false fun h => hl (by rw [h])
    have c1 : ((xs.length : Int) != (ys.length : Int)) = true := by rw [bne_iff_ne]; omega
    have c2 : ((xs.length : Int) == (ys.length : Int)) = false := by rw [beq_eq_false_iff_ne]; omega
    have c3 : ¬ ((xs.length : Int) = (ys.length : Int)) := by omega
    rw [hne]
    clear a1 a2 b1 b2 hne
    go_enter Try.func36, Try.ntmps36
    go_wp2
    go_ret
    exact ⟨rfl, Below.refl _ _⟩

/-- Blocks, in a row of their own. -/
abbrev OwnK (w : World) (v : Value) (l : List (List UInt8)) : Prop := w.ownsRow 0 69 512 v l.length (l.flatMap bcells)
set_option maxRecDepth 100000 in
set_option maxHeartbeats 2000000 in
theorem equal_blks {w : World} (u v : Value) (xs ys : List (List UInt8)) (h1 : OwnK w u xs) (h2 : OwnK w v ys) (hx : ∀ l ∈ xs, l.length = 512) (hy : ∀ l ∈ ys, l.length = 512) (hxl : xs.length ≤ 1000000) (hyl : ys.length ≤ 1000000) :
    Calls Try.prog 39 #[u, v] w fun e w' => e = .returned (.bool (decide (xs = ys))) ∧ Below w.heap.size w w' := by
  obtain ⟨p, c, rfl⟩ : ∃ p c, u = .slice p xs.length c := by
    rcases h1.2 with ⟨h, h0⟩ | ⟨g, cap, cur, h, _⟩
    · exact ⟨none, 0, by rw [h, h0]⟩
    · exact ⟨_, _, h⟩
  obtain ⟨q, e, rfl⟩ : ∃ q e, v = .slice q ys.length e := by
    rcases h2.2 with ⟨h, h0⟩ | ⟨g, cap, cur, h, _⟩
    · exact ⟨none, 0, by rw [h, h0]⟩
    · exact ⟨_, _, h⟩
  by_cases hl : xs.length = ys.length
  · have c1 : ((xs.length : Int) != (ys.length : Int)) = false := by rw [bne_eq_false_iff_eq]; omega
    have c2 : ((xs.length : Int) == (ys.length : Int)) = true := by rw [beq_iff_eq]; omega
    have H := Lib.hid (And.intro h1 (And.intro h2 (And.intro hx hy)))
    clear h1 h2 hx hy
    rw [← hl] at c1 c2
    rw [← hl]
    go_enter Try.func39, Try.ntmps39
    go_wp2
    go_loopw [5, 13] (fun _ i wr => ∃ k : Nat, k ≤ xs.length ∧ i = .int .i64 (k : Int) ∧ xs.take k = ys.take k ∧ Below w.heap.size w wr) (fun _ i _ => xs.length - (intOf i).toNat)
    case atStart => exact ⟨0, Nat.zero_le _, rfl, rfl, Below.refl _ _⟩
    case round =>
      obtain ⟨k, hk, rfl, htk, hB⟩ := hrel
      by_cases hlt : k < xs.length
      · have hlt' : k < ys.length := by omega
        have hlt2 : k + 1 ≤ xs.length := hlt
        obtain ⟨j1, j2, j3, j4⟩ := H.out
        have l1 := j3 xs[k] (List.getElem_mem hlt)
        have l2 := j4 ys[k] (List.getElem_mem hlt')
        have r1 : wr.drew.ownsRow 0 69 512 _ _ _ := ownsRow_heap j1 fun b hb => hB.block b (j1.lt b hb).2
        have r2 : wr.drew.ownsRow 0 69 512 _ _ _ := ownsRow_heap j2 fun b hb => hB.block b (j2.lt b hb).2
        obtain ⟨g1, c1', e1, hld1⟩ := load_since r1 j3 k xs[k] (by simp [hlt])
        obtain ⟨g2, c2', e2, hld2⟩ := load_since r2 j4 k ys[k] (by simp [hlt'])
        cases e1
        obtain ⟨rfl⟩ : q = some ⟨g2, 0, none⟩ := by cases e2; rfl
        have htx : xs.take (k + 1) = xs.take k ++ [xs[k]] := List.take_succ_eq_append_getElem hlt
        have hty : ys.take (k + 1) = ys.take k ++ [ys[k]] := List.take_succ_eq_append_getElem hlt'
        have hne := fun W => run_ne_blk W xs[k] ys[k] l1 l2
        have hdec : xs[k] = ys[k] ∨ decide (xs = ys) = false := by
          by_cases h : xs[k] = ys[k]
          · exact .inl h
          · exact .inr (decide_eq_false fun hh => h (by simp only [hh]))
        generalize xs[k] = x at *
        generalize ys[k] = y at *
        have HL := Lib.hid (And.intro hld1 (And.intro hld2 (And.intro hne (And.intro htk (And.intro htx (And.intro hty (And.intro hdec hB)))))))
        clear hld1 hld2 hne htk htx hty hdec hB j1 j2 j3 j4 l1 l2 r1 r2
        go_wp2
        have hix : ∀ (b c' : Nat) (W : World), (Instr.indexAt 74 (.slice (some ⟨b, 0, none⟩) xs.length c') (.int .i64 (k : Int))).run Try.prog W = .ok (.pointer (some ⟨b, k * 512, none⟩)) W := fun b c' W => by
          have h1 : 0 ≤ (k : Int) := by omega
          have hszb : (sizeOf 69).run Try.prog W = .ok 512 W := Try.sizeOf69 W
          simp [go_sem, hlt, hszb, addr_add]
        obtain ⟨hld1, hld2, hne, htk, htx, hty, hdec, hB⟩ := HL.out
        have hS0 : (loadVar 69 ⟨g1, k * 512, none⟩).run Try.prog wr.drew = .ok (blkV x) wr.drew ∧ (loadVar 69 ⟨g2, k * 512, none⟩).run Try.prog wr.drew = .ok (blkV y) wr.drew := ⟨hld1, hld2⟩
        refine plain_region_draws (fun W => (loadVar 69 ⟨g1, k * 512, none⟩).run Try.prog W = .ok (blkV x) W ∧ (loadVar 69 ⟨g2, k * 512, none⟩).run Try.prog W = .ok (blkV y) W) (by kernel_rfl) hS0 (fun hS => ?_)
        refine take 0 16 (v := .slice (some ⟨g1, 0, none⟩) xs.length c) rfl rfl (by kernel_rfl) (by kernel_rfl) (by kernel_rfl) rfl (fun W hW => exec_move rfl rfl) (by assumption) ?_
        simp only [Act.put, List.setIfInBounds_toArray, List.set_cons_zero, List.set_cons_succ]
        refine take 1 17 (v := .int .i64 (k : Int)) rfl rfl (by kernel_rfl) (by kernel_rfl) (by kernel_rfl) rfl (fun W hW => exec_move rfl rfl) (by assumption) ?_
        simp only [Act.put, List.setIfInBounds_toArray, List.set_cons_zero, List.set_cons_succ]
        refine take 2 18 (v := .pointer (some ⟨g1, k * 512, none⟩)) rfl rfl (by kernel_rfl) (by kernel_rfl) (by kernel_rfl) rfl (fun W hW => exec_indexAddr rfl rfl rfl (hix g1 c W)) (by assumption) ?_
        simp only [Act.put, List.setIfInBounds_toArray, List.set_cons_zero, List.set_cons_succ]
        refine take 3 19 (v := blkV x) rfl rfl (by kernel_rfl) (by kernel_rfl) (by kernel_rfl) rfl (fun W hW => exec_load rfl rfl hW.1) (by assumption) ?_
        simp only [Act.put, List.setIfInBounds_toArray, List.set_cons_zero, List.set_cons_succ]
        refine take 4 20 (v := .slice (some ⟨g2, 0, none⟩) xs.length e) rfl rfl (by kernel_rfl) (by kernel_rfl) (by kernel_rfl) rfl (fun W hW => exec_move rfl rfl) (by assumption) ?_
        simp only [Act.put, List.setIfInBounds_toArray, List.set_cons_zero, List.set_cons_succ]
        refine take 5 21 (v := .int .i64 (k : Int)) rfl rfl (by kernel_rfl) (by kernel_rfl) (by kernel_rfl) rfl (fun W hW => exec_move rfl rfl) (by assumption) ?_
        simp only [Act.put, List.setIfInBounds_toArray, List.set_cons_zero, List.set_cons_succ]
        refine take 6 22 (v := .pointer (some ⟨g2, k * 512, none⟩)) rfl rfl (by kernel_rfl) (by kernel_rfl) (by kernel_rfl) rfl (fun W hW => exec_indexAddr rfl rfl rfl (hix g2 e W)) (by assumption) ?_
        simp only [Act.put, List.setIfInBounds_toArray, List.set_cons_zero, List.set_cons_succ]
        refine take 7 23 (v := blkV y) rfl rfl (by kernel_rfl) (by kernel_rfl) (by kernel_rfl) rfl (fun W hW => exec_load rfl rfl hW.2) (by assumption) ?_
        simp only [Act.put, List.setIfInBounds_toArray, List.set_cons_zero, List.set_cons_succ]
        refine take 8 24 (v := .bool (!decide (x = y))) rfl rfl (by kernel_rfl) (by kernel_rfl) (by kernel_rfl) rfl (fun W hW => exec_binv rfl rfl rfl guard_blk (hne W)) (by assumption) ?_
        simp only [Act.put, List.setIfInBounds_toArray, List.set_cons_zero, List.set_cons_succ]
        refine done (by kernel_rfl) ?_ _
        by_cases hxy : x = y
        · have hv : (!decide (x = y)) = false := by simp [hxy]
          have Hf : Hid (xs.take (k + 1) = ys.take (k + 1) ∧ Below w.heap.size w wr.drew) := Lib.hid ⟨by rw [htx, hty, htk, hxy], hB.drew⟩
          rw [hv]
          clear hix hld1 hld2 hne htk htx hty hdec hB hS0 hS HL hv hxy
          go_wp2
          go_roundw
          case rel => exact ⟨k + 1, by omega, by go_num, Hf.out.1, Hf.out.2⟩
          case measure => simp [intOf]; omega
        · have hv : (!decide (x = y)) = true := by simp [hxy]
          have Hf : Hid (decide (xs = ys) = false ∧ Below w.heap.size w wr.drew) := Lib.hid ⟨hdec.resolve_left hxy, hB.drew⟩
          rw [hv]
          clear hix hld1 hld2 hne htk htx hty hdec hB hS0 hS HL hv hxy
          go_wp2
          go_ret
          exact ⟨ret_bool Hf.out.1.symm, Hf.out.2⟩
      · have hf : decide (xs = ys) = true := by
          obtain rfl : k = xs.length := by omega
          rw [List.take_length, hl, List.take_length] at htk
          exact decide_eq_true htk
        have Hf := Lib.hid (And.intro hf hB)
        clear htk hf hB
        go_wp2
        go_ret
        exact ⟨ret_bool Hf.out.1.symm, Hf.out.2⟩
  · have hne : decide (xs = ys) = false := decide_eq_false fun h => hl (by rw [h])
    have c1 : ((xs.length : Int) != (ys.length : Int)) = true := by rw [bne_iff_ne]; omega
    have c2 : ((xs.length : Int) == (ys.length : Int)) = false := by rw [beq_eq_false_iff_ne]; omega
    have c3 : ¬ ((xs.length : Int) = (ys.length : Int)) := by omega
    rw [hne]
    clear h1 h2 hx hy hne
    go_enter Try.func39, Try.ntmps39
    go_wp2
    go_ret
    exact ⟨rfl, Below.refl _ _⟩
end Go.Proofs.Ytmgajgeoibbmjaa
