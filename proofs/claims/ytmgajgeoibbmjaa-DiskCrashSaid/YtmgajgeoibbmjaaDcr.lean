/- What a crash's picks leave; DiskCrash's walk. Printed by gen_dcr.py. -/
import Derived.Test.YtmgajgeoibbmjaaScr
namespace Go.Proofs.Ytmgajgeoibbmjaa
open Go.RowKit

/-- How many blocks below one were written since. -/
def cntS (d : DM) (k : Nat) : Nat := (((List.range k).map fun i : Nat => (i : Int)).filter fun k => (d.since k).isSome).length
theorem cntS_succ (d : DM) (k : Nat) : cntS d (k + 1) = cntS d k + if (d.since (k : Int)).isSome = true then 1 else 0 := by
  unfold cntS
  rw [List.range_succ, List.map_append, List.filter_append, List.length_append]
  simp only [List.map_cons, List.map_nil, List.filter_cons, List.filter_nil]
  split <;> simp_all
theorem cntS_le (d : DM) (k : Nat) : cntS d k ≤ k := by
  have := List.length_filter_le (fun k => (d.since k).isSome) ((List.range k).map fun i : Nat => (i : Int))
  unfold cntS; simpa using this
theorem foldl_other (d : DM) (t : Int) : ∀ (ks : List Int) (s : (Int → Option (List UInt8)) × List Int), t ∉ ks → (ks.foldl (crashStep d) s).1 t = s.1 t := by
  intro ks
  induction ks with
  | nil => intro s _; rfl
  | cons k r ih =>
    intro s h
    rw [List.foldl_cons, ih _ (fun hh => h (List.mem_cons_of_mem _ hh))]
    simp only [crashStep]
    rw [if_neg (fun e => h (by rw [e]; simp))]
theorem foldl_snd (d : DM) : ∀ (ks : List Int) (s : (Int → Option (List UInt8)) × List Int), (ks.foldl (crashStep d) s).2 = s.2.drop ks.length := by
  intro ks
  induction ks with
  | nil => intro s; simp
  | cons k r ih => intro s; rw [List.foldl_cons, ih]; simp [crashStep]
/-- The picks: noughts for the blocks below, then one. -/
def picksL (c i : Nat) : List Int := List.replicate c 0 ++ [(i : Int)]
/-- What a block could be. -/
def could (d : DM) (t : Nat) : List (List UInt8) := (d.lasting (t : Int)).getD zblk :: (d.since (t : Int)).getD []
theorem crash_at {d : DM} {t : Nat} (ht : t < d.size) (i : Nat) (hi : i < (could d t).length) : blkAt (d.crash (picksL (cntS d t) i)) t = (could d t)[i] := by
  have e : List.range d.size = List.range t ++ t :: (List.range (d.size - t - 1)).map (fun x => t + (x + 1)) := by
    have h1 : d.size = t + (d.size - t - 1 + 1) := by omega
    rw [h1, List.range_add, List.range_succ_eq_map]
    have h2 : t + (d.size - t - 1 + 1) - t - 1 = d.size - t - 1 := by omega
    rw [h2]
    simp [Function.comp_def]
  have hA : (t : Int) ∉ (((List.range t).map fun i : Nat => (i : Int)).filter fun k => (d.since k).isSome) := by
    intro h
    obtain ⟨h, _⟩ := List.mem_filter.1 h
    obtain ⟨j, hj, he⟩ := List.mem_map.1 h
    have := List.mem_range.1 hj
    omega
  have hB : (t : Int) ∉ ((((List.range (d.size - t - 1)).map (fun x => t + (x + 1))).map fun i : Nat => (i : Int)).filter fun k => (d.since k).isSome) := by
    intro h
    obtain ⟨h, _⟩ := List.mem_filter.1 h
    obtain ⟨j, hj, he⟩ := List.mem_map.1 h
    obtain ⟨x, _, hx⟩ := List.mem_map.1 hj
    omega
  have hs : (d.crash (picksL (cntS d t) i)).seen (t : Int) = (crashL d (picksL (cntS d t) i) (sinceKeys d)).1 (t : Int) := rfl
  unfold blkAt
  rw [hs]
  unfold crashL sinceKeys
  rw [e, List.map_append, List.map_cons, List.filter_append, List.foldl_append, List.filter_cons]
  have hlen : (((List.range t).map fun i : Nat => (i : Int)).filter fun k => (d.since k).isSome).length = cntS d t := rfl
  generalize (((List.range t).map fun i : Nat => (i : Int)).filter fun k => (d.since k).isSome) = A at *
  generalize ((((List.range (d.size - t - 1)).map (fun x => t + (x + 1))).map fun i : Nat => (i : Int)).filter fun k => (d.since k).isSome) = B at *
  have h1 : (A.foldl (crashStep d) (d.lasting, picksL (cntS d t) i)).1 (t : Int) = d.lasting (t : Int) := foldl_other d _ A _ hA
  have h2 : (A.foldl (crashStep d) (d.lasting, picksL (cntS d t) i)).2 = [(i : Int)] := by
    rw [foldl_snd, hlen]; simp [picksL]
  generalize A.foldl (crashStep d) (d.lasting, picksL (cntS d t) i) = s at *
  cases hS : d.since (t : Int) with
  | none =>
    have hl : could d t = [(d.lasting (t : Int)).getD zblk] := by unfold could; rw [hS]; rfl
    simp only [Option.isSome_none, Bool.false_eq_true, if_false]
    rw [foldl_other d _ B _ hB, h1]
    have hi0 : i = 0 := by rw [hl] at hi; simp at hi; exact hi
    subst hi0
    simp only [hl, List.getElem_cons_zero]
  | some ls =>
    have hl : could d t = (d.lasting (t : Int)).getD zblk :: ls := by unfold could; rw [hS]; rfl
    simp only [Option.isSome_some, if_true]
    rw [List.foldl_cons, foldl_other d _ B _ hB]
    have hil : i ≤ ls.length := by rw [hl] at hi; simp at hi; omega
    have hmod : ((i : Int) % ((ls.length : Int) + 1)).toNat = i := by
      rw [Int.emod_eq_of_lt (by omega) (by omega)]; simp
    simp only [crashStep, if_true, h1, h2, hS, Option.getD_some, List.headD_cons, crashPick, hmod]
    cases i with
    | zero => simp only [if_true, Option.none_or, hl, List.getElem_cons_zero]
    | succ j =>
      have hj : j < ls.length := by omega
      simp only [hl, List.getElem_cons_succ, Nat.add_sub_cancel]
      rw [if_neg (by omega), List.getElem?_eq_getElem hj]
      rfl
theorem sinceKeys_crash (d : DM) (p : List Int) : sinceKeys (d.crash p) = [] := by
  unfold sinceKeys; rw [List.filter_eq_nil_iff]; intro k _; simp [DM.crash]
/-- A crash of what a crash leaves changes nothing. -/
theorem crash_crash (d : DM) (p q : List Int) : (d.crash p).crash q = d.crash p := by
  have h : crashL (d.crash p) q (sinceKeys (d.crash p)) = ((d.crash p).lasting, q) := by rw [sinceKeys_crash]; rfl
  show ({ size := (d.crash p).size, lasting := (crashL (d.crash p) q (sinceKeys (d.crash p))).1, seen := (crashL (d.crash p) q (sinceKeys (d.crash p))).1, since := fun _ => none, fails := fun _ => none, steps := 0 } : DM) = _
  rw [h]; rfl
theorem sameB_refl (d : DM) : sameB d d = true := sameB_iff.2 ⟨fun _ => rfl, fun _ => rfl, rfl, rfl, fun _ => Iff.rfl, rfl⟩
theorem picksL_length (c i : Nat) : (picksL c i).length = c + 1 := by unfold picksL; simp
theorem picksL_neg (c i : Nat) : anyNeg (picksL c i) = false := by
  unfold anyNeg picksL
  rw [List.any_eq_false]
  intro x hx
  simp only [List.mem_append, List.mem_replicate, List.mem_singleton] at hx
  simp only [decide_eq_true_eq]
  omega

/-- Noughts, made. -/
theorem make_intz (m : Nat) (hm : m ≤ 1000) (w : World) : ∃ w', (Instr.makeSlice 31 (.int .i64 (m : Int)) (.int .i64 (m : Int))).run Try.prog w = .ok (.slice (some ⟨w.heap.size, 0, none⟩) m m) w' ∧ RowAt w' w.heap.size m 3 (List.replicate m (.int .i64 0)) ∧ Below w.heap.size w w' := by
  obtain ⟨i0, h1, h2, h3, h4⟩ := info_int
  obtain ⟨w', hr, hown, hg⟩ := run_makeSlice_full (P := Try.prog) (w := w) 0 31 3 i0 (.int .i64 0) 1 Try.underlying31 h1 h2 h3 .i64 .i64 m (by omega) (by rw [h4]; omega) (by unfold maxLen; omega) (Nat.zero_le _)
  refine ⟨w', hr, ?_, ⟨hg.os, hg.tape, hg.output, hg.size, fun b hb => hg.block b hb (by simp)⟩⟩
  have e : (madeCells (Value.int .i64 0).cells (m * 1)).toList = List.replicate m (.int .i64 0) := by
    rw [Nat.mul_one]
    show (madeCells #[Value.int .i64 0] m).toList = _
    rw [toList_madeCells_one]
  rw [e] at hown
  exact RowAt.own hown
theorem RowAt.ints {w : World} {b c : Nat} {l : List Int} (h : RowAt w b c 3 (l.map (.int .i64))) : RdI w (.slice (some ⟨b, 0, none⟩) l.length c) l :=
  ⟨some ⟨b, 0, none⟩, c, rfl, fun h => (by cases h), fun ad had => by
    cases had
    refine ⟨fun _ => rfl, fun i k hi => ?_⟩
    have := h.cell (j := i) (u := .int .i64 k) (by simp [hi])
    simpa using this⟩
theorem replicate_set (c : Nat) (v : Value) : ∀ n, n = c + 1 → ∀ u : Value, (List.replicate n u).set c v = List.replicate c u ++ [v] := by
  induction c with
  | zero => rintro n rfl u; rfl
  | succ c ih => rintro n rfl u; rw [List.replicate_succ, List.set_cons_succ, ih _ rfl u]; rfl
/-- Picks, as they are made. -/
theorem picks_made {w : World} {g c i : Nat} (h : RowAt w g (c + 1) 3 (List.replicate (c + 1) (.int .i64 0))) : RdI (w.setCell ⟨g, c, none⟩ (.int .i64 (i : Int))) (.slice (some ⟨g, 0, none⟩) (c + 1) (c + 1)) (picksL c i) := by
  have h2 := h.put (j := c) (by simp) (.int .i64 (i : Int))
  rw [replicate_set c _ _ rfl] at h2
  have e : List.replicate c (Value.int .i64 0) ++ [.int .i64 (i : Int)] = (picksL c i).map (.int .i64) := by simp [picksL]
  rw [e] at h2
  have := h2.ints
  rw [picksL_length] at this
  exact this
def ones8 : List Int := [1, 1, 1, 1, 1, 1, 1, 1]
theorem ones_made (w : World) : RdI (w.alloc (.cells #[.int .i64 1, .int .i64 1, .int .i64 1, .int .i64 1, .int .i64 1, .int .i64 1, .int .i64 1, .int .i64 1] 3)) (.slice (some ⟨w.heap.size, 0, none⟩) 8 8) ones8 := by
  have h : RowAt (w.alloc (.cells #[.int .i64 1, .int .i64 1, .int .i64 1, .int .i64 1, .int .i64 1, .int .i64 1, .int .i64 1, .int .i64 1] 3)) w.heap.size 8 3 (ones8.map (.int .i64)) := ⟨_, heap_alloc_new _ _, rfl, Nat.le_refl _, rfl⟩
  exact h.ints

/-- Strings behind strings. -/
theorem append_strs {w : World} {v s : Value} {n m : Nat} {xs ys : List Value} (hown : w.ownsRow 0 9 1 v n xs) (hsrc : w.ownsRow 0 9 1 s m ys) (h1 : ∀ u ∈ ys, u.oneCell' = true) (hb : n + m ≤ 1000000) (ty : TypeId) :
    ∃ v' w', (Builtin.append_ #[29, 29] ty #[v, s]).run Try.prog w = .ok v' w' ∧ w'.ownsRow 0 9 1 v' (n + m) (xs ++ ys) ∧ Touch (fun b => v.ownBlock = some b) w w' := by
  obtain ⟨i, i1, i2, i3, i4⟩ := info_st
  have hc := fun g => hsrc.cells (g := g)
  have hl := hsrc.1
  rcases hsrc.2 with ⟨rfl, h0⟩ | ⟨g, cap, cur, rfl, _⟩
  · have : ys = [] := List.eq_nil_of_length_eq_zero (by rw [hl, h0])
    subst this
    subst h0
    refine ⟨v, w, append_law_nil (P := Try.prog) 29 ty 9 i 1 Try.underlying29 i1 i3 v n xs hown, by rw [List.append_nil]; exact hown, Touch.refl _ _⟩
  · obtain ⟨v', w', a1, a2, a3, _⟩ := append_law (P := Try.prog) (w := w) 29 ty 9 i _ 1 16 Try.underlying29 i1 i2 i3 i4 rfl v n xs hown ⟨g, 0, none⟩ m cap ys hl (fun j u hu => hc g rfl j u hu) h1 (by unfold maxLen; omega) (by omega)
    exact ⟨v', w', a1, a2, a3⟩

/-- A pair of disks, behind k steps. -/
def OneI (w wr : World) (n k a r : Nat) : Prop := ∃ d F N G, Pair wr a r d F N G ∧ (∀ x, G x → w.heap.size ≤ x) ∧ d.size = n ∧ d.steps ≤ k ∧ F.length ≤ 30 * k ∧ N ≤ 30 * k ∧ Below w.heap.size w wr
theorem OneI.below {w wr : World} {n k a r : Nat} (h : OneI w wr n k a r) : Below w.heap.size w wr := by
  obtain ⟨_, _, _, _, _, _, _, _, _, _, h⟩ := h; exact h
theorem OneI.does {w wr : World} {n k a r : Nat} (h : OneI w wr n k a r) (hk : k ≤ 100) (st : StpM) (h1 : RdB w (.slice st.q2 st.m2 st.c2) st.bs) (h2 : RdI w (.slice st.q st.m st.c) st.ks) (h3 : st.q = none → st.c = 0) (hb : st.bs.length ≤ 1000000) (hks : st.ks.length ≤ 30) :
    Calls Try.prog 10 #[.pointer (some ⟨a, 0, none⟩), .pointer (some ⟨r, 0, none⟩), .agg #[.int .i64 st.kd, .int .i64 st.at_, .int .i64 st.num, .slice st.q2 st.m2 st.c2, .slice st.q st.m st.c]] wr fun e w' => e = .returned (.bool true) ∧ OneI w w' n (k + 1) a r := by
  obtain ⟨d, F, N, G, g1, g4, g5, g7, g9, g11, g13⟩ := h
  refine (does_any g1 (by omega) (by omega) (by omega) st.kd st.at_ st.num _ _ _ _ _ _ _ (step_val h1 h2 h3 g13 g4 hb (by omega))).mono ?_
  rintro e w' ⟨rfl, d1, F1, G1, j1, j2, j3, j4, j5, j6⟩
  refine ⟨rfl, d1, F1, _, G1, j1, fun x hx => ?_, by omega, by omega, by omega, by omega, j6.below g13 (fun b hb hg => by have := g4 b hg; omega) g13.size⟩
  rcases j2 x hx with e | e
  · exact g4 x e
  · have := g13.size; omega
theorem RowAt.below1 {w w' : World} {b c : Nat} {e : TypeId} {xs : List Value} (h : RowAt w b c e xs) (g : Below w.heap.size w w') : RowAt w' b c e xs := h.of_heap (g.block b h.lt)
theorem one_start {w w1 w3 : World} {n a L cL S cS Q cQ : Nat} (h1 : Dd w w1 a (DM.new n)) (b1 : Below w.heap.size w w1)
    (h3 : RowAt w3 L cL 9 (List.replicate n (strV zblk)) ∧ RowAt w3 S cS 9 (List.replicate n (strV zblk)) ∧ RowAt w3 Q cQ 29 (List.replicate n (.slice none 0 0)) ∧ [L, S, Q].Nodup ∧ ∀ x ∈ [L, S, Q], w1.heap.size ≤ x) (b3 : Below w1.heap.size w1 w3) :
    OneI w (w3.alloc (.cells #[.slice (some ⟨L, 0, none⟩) n cL, .slice (some ⟨S, 0, none⟩) n cS, .slice (some ⟨Q, 0, none⟩) n cQ, .slice none 0 0, .int .i64 0] 33)) n 0 a w3.heap.size := by
  obtain ⟨⟨F1, d1, f1⟩, _⟩ := h1
  obtain ⟨p1, p2, p3, p4, p5⟩ := h3
  have z1 := b1.size
  have z3 := b3.size
  have l1 := p1.lt
  have l2 := p2.lt
  have l3 := p3.lt
  have x1 := p5 L (by simp)
  have x2 := p5 S (by simp)
  have x3 := p5 Q (by simp)
  have hbox1 := heap_alloc_new w3 (.cells #[.slice (some ⟨L, 0, none⟩) n cL, .slice (some ⟨S, 0, none⟩) n cS, .slice (some ⟨Q, 0, none⟩) n cQ, .slice none 0 0, .int .i64 0] 33)
  have b5 : Below w3.heap.size w3 (w3.alloc (.cells #[.slice (some ⟨L, 0, none⟩) n cL, .slice (some ⟨S, 0, none⟩) n cS, .slice (some ⟨Q, 0, none⟩) n cQ, .slice none 0 0, .int .i64 0] 33)) := (Below.refl _ _).alloc (Nat.le_refl _) _
  have zs : (w3.alloc (.cells #[.slice (some ⟨L, 0, none⟩) n cL, .slice (some ⟨S, 0, none⟩) n cS, .slice (some ⟨Q, 0, none⟩) n cQ, .slice none 0 0, .int .i64 0] 33)).heap.size = w3.heap.size + 1 := by simp
  generalize w3.alloc (.cells #[.slice (some ⟨L, 0, none⟩) n cL, .slice (some ⟨S, 0, none⟩) n cS, .slice (some ⟨Q, 0, none⟩) n cQ, .slice none 0 0, .int .i64 0] 33) = W at *
  have b15 := b3.trans (b5.mono z3)
  have r1 := ref_start hbox1 (p1.below1 b5) (p2.below1 b5) (p3.below1 b5) (by
    simp only [List.nodup_cons, List.mem_cons, List.not_mem_nil, or_false, not_or] at p4 ⊢
    exact ⟨⟨by omega, by omega, by omega⟩, p4⟩)
  refine ⟨DM.new n, [], 0, fun x => F1 x ∨ x ∈ [w3.heap.size, L, S, Q], ⟨⟨F1, _, d1.below b15, ⟨_, _, _, _, _, _, _, _, r1⟩, ?_, fun x hx => hx⟩, ?_, FailB.none fun _ => rfl⟩, ?_, rfl, Nat.le_refl _, Nat.le_refl _, Nat.le_refl _, b1.trans (b15.mono z1)⟩
  · intro x hx hr
    have := f1 x hx
    simp only [List.mem_cons, List.not_mem_nil, or_false] at hr
    omega
  · rintro x (hx | hr)
    · have := f1 x hx; omega
    · simp only [List.mem_cons, List.not_mem_nil, or_false] at hr; omega
  · rintro x (hx | hx)
    · exact (f1 x hx).1
    · simp only [List.mem_cons, List.not_mem_nil, or_false] at hx; omega
set_option maxRecDepth 100000 in
set_option maxHeartbeats 2000000 in
theorem dcrash_known (n : Int) (v1 : Value) (s1 : List StpM) (t : Int) (w : World) (hs1 : ScrAt w v1 s1) (h : vastD n (s1.map StpM.sz) = true ∨ n < 1 ∨ 65536 < n ∨ t < 0 ∨ n ≤ t) :
    Calls Try.prog 3 #[.int .i64 n, v1, .int .i64 t] w fun e w' => e = .returned (.bool true) ∧ Below w.heap.size w w' := by
  have hv1 := vast_any n v1 _ w hs1.steps
  obtain ⟨a1, c1, rfl, _⟩ := hs1
  have Hv1 := Lib.hid hv1
  have Hk := Lib.hid known_any
  clear hv1
  generalize hvb : vastD n (s1.map StpM.sz) = vb at *
  clear hvb
  have hcases : vb = true ∨ (vb = false ∧ decide (n < 1) = true) ∨ (vb = false ∧ decide (n < 1) = false ∧ decide (n > 65536) = true) ∨ (vb = false ∧ decide (n < 1) = false ∧ decide (n > 65536) = false ∧ decide (t < 0) = true) ∨ (vb = false ∧ decide (n < 1) = false ∧ decide (n > 65536) = false ∧ decide (t < 0) = false ∧ decide (t ≥ n) = true) := by
    cases vb <;> simp only [decide_eq_true_iff, decide_eq_false_iff_not] at * <;> simp at h ⊢ <;> omega
  clear h
  rcases hcases with rfl | ⟨rfl, k1⟩ | ⟨rfl, k1, k2⟩ | ⟨rfl, k1, k2, k3⟩ | ⟨rfl, k1, k2, k3, k4⟩
  all_goals
    go_enter Try.func3, Try.ntmps3
    go_wp2_with (first
      | (go_at_call 6; ((with_reducible refine Hv1.out.mono ?_); rintro e w1 ⟨rfl, rfl⟩; clear Hv1))
      | (go_at_call 7; refine (Hk.out _).mono ?_; rintro e w2 ⟨rfl, hb⟩; have HB := Lib.hid hb; clear hb))
    go_ret
    exact ⟨rfl, HB.out⟩
end Go.Proofs.Ytmgajgeoibbmjaa
