/- Texts that the proof shares (each declaration is a lemma of this layer). -/
import Derived.Test.YtihfnegakcghiaaGreatDoorZGchecksa
import Derived.Test.YtihfnegakcghiaaGreatDoorZGchecksb
import Derived.Test.YtihfnegakcghiaaGreatDoorZGchecksc
import Derived.Shelf.SortM.Plain
import Derived.Shelf.SortM.SortNone
import Derived.Shelf.Slices.CompactS
import Derived.Shelf.SlicesE.Delete
import Derived.Shelf.SlSortCmp.WholeK
import Derived.Shelf.SlSortCmp.NoneTotal
set_option linter.unusedSimpArgs false
set_option linter.unusedVariables false
set_option linter.unnecessarySimpa false
set_option maxRecDepth 100000
set_option maxHeartbeats 64000000
namespace Go.Proofs.YtihfnegakcghiaaGreatDoor
open Go.RowKit Go.Sort
theorem lt_ltB (a b : List UInt8) : decide (a < b) = ltB a b := by rw [← bytesLess_eq, less_eq]
theorem le_ltB {a b : List UInt8} (h : decide (a ≤ b) = true) : ltB b a = false := by
  rw [← lt_ltB]
  rw [decide_eq_true_iff] at h
  exact decide_eq_false (List.not_lt.2 h)
theorem putCells_take {α : Type} [Inhabited α] (enc : α → Value) {cur : Array Value} {d : Array α} {n : Nat} (hd : d.size ≤ cur.size) (hn : n ≤ d.size) : (putCells enc 0 d cur).toList.take n = (d.toList.map enc).take n := by
  apply List.ext_getElem?
  intro t
  rw [List.getElem?_take, List.getElem?_take]
  by_cases h : t < n
  · rw [if_pos h, if_pos h]
    unfold putCells
    rw [Array.getElem?_toList, Array.getElem?_mapIdx, Array.getElem?_eq_getElem (by omega), Option.map_some, if_pos ⟨Nat.zero_le _, by omega⟩, List.getElem?_map, Array.getElem?_toList, Array.getElem?_eq_getElem (by omega), Option.map_some, Nat.sub_zero, getElem!_pos d t (by omega)]
  · rw [if_neg h, if_neg h]
theorem putCells_size {α : Type} [Inhabited α] (enc : α → Value) (cur : Array Value) (d : Array α) : (putCells enc 0 d cur).size = cur.size := by unfold putCells; simp
section
variable {w : World} {P : Nat → Prop} {vl : Value} {l : List (List UInt8)}
theorem owns_holds {g cap : Nat} (h : OwnsP w P 9 1 (.slice (some ⟨g, 0, none⟩) l.length cap) l.length (l.map strV)) {cur : Array Value} (hg : w.heap[g]? = some (.cells cur 9 (0, 0))) : Holds encStr w g 0 l.toArray := by
  intro j hj
  have hj2 : j < l.length := by simpa using hj
  refine ⟨?_, by rw [Nat.zero_add]; exact freeOf hg⟩
  have := h.1.cells (g := g) rfl j (strV l[j]) (by simp [hj2])
  rw [addr_add] at this
  rw [getElem!_pos _ j hj]
  simpa [strV, strB] using this
theorem owns_sorted {g cap n q : Nat} {os : Array Obj} {d : Array (List UInt8)} (h : OwnsP w P 9 1 (.slice (some ⟨g, 0, none⟩) l.length cap) l.length (l.map strV)) (hd : d.size = l.length) (hn : n ≤ d.size) {m : List (List UInt8)} (hm : (d.toList).take n = m) (hml : m.length = n) :
    OwnsP (sortWorld encStr w g 0 q d os) P 9 1 (.slice (some ⟨g, 0, none⟩) n cap) n (m.map strV) ∧ Touch (fun b => b = g) w (sortWorld encStr w g 0 q d os) := by
  refine ⟨?_, sortWorld_touch encStr w g q d os⟩
  rcases h.1.2 with ⟨e, _⟩ | ⟨g', cap', cur, e, _, hg, hnc, hcm, hcs, htake⟩
  · cases e
  · cases e
    have hrow := sortWorld_row encStr w g q d os hg
    refine ⟨⟨by simp [hml], .inr ⟨g, cap, _, rfl, Nat.zero_le _, hrow, by omega, hcm, ?_, ?_⟩⟩, fun b hb => h.2 b (by cases hb; rfl)⟩
    · rw [putCells_size]; exact hcs
    · rw [Nat.mul_one, putCells_take encStr (by rw [hcs, Nat.mul_one]; omega) hn, ← hm, List.map_take]
      rfl
theorem sortS_any (h : OwnsP w P 9 1 vl l.length (l.map strV)) (hn : l.length ≤ 1100000) : Calls Tryz.prog 45 #[vl] w fun e w' => e = .returned (.tuple #[]) ∧
    ∃ l' : List (List UInt8), l'.Perm l ∧ (l'.Pairwise fun a b => ltB b a = false) ∧ OwnsP w' P 9 1 vl l'.length (l'.map strV) ∧ Touch (fun b => vl.ownBlock = some b) w w' := by
  rcases h.1.2 with ⟨rfl, e⟩ | ⟨g, cap, cur, rfl, _, hg, hnc, hcm, hcs, htake⟩
  · have : l = [] := List.eq_nil_of_length_eq_zero e
    subst this
    refine (AnyM.slices_Sort_string_none Tryz.sortS none 0 w).mono ?_
    rintro e w' ⟨rfl, rfl⟩
    exact ⟨rfl, [], .refl _, .nil, h, Touch.refl _ _⟩
  · refine (AnyM.slices_Sort_string Tryz.sortS g 0 cap l w (owns_holds h hg) (Array.getElem?_eq_some_iff.1 hg).1 (by omega)).mono ?_
    rintro e w' ⟨rfl, q, os, rfl⟩
    have hp := List.mergeSort_perm l (fun x y => decide (x ≤ y))
    have hs := List.pairwise_mergeSort (le := fun x y : List UInt8 => decide (x ≤ y)) (fun a b c h1 h2 => by simp only [decide_eq_true_iff] at *; exact List.le_trans h1 h2) (fun a b => by simp only [Bool.or_eq_true, decide_eq_true_iff]; exact List.le_total a b) l
    have hlen : (l.mergeSort fun x y => decide (x ≤ y)).length = l.length := hp.length_eq
    obtain ⟨h1, h2⟩ := owns_sorted (q := q) (os := os) (n := l.length) (d := (l.mergeSort fun x y => decide (x ≤ y)).toArray) h (by simp) (by simp [hlen]) (m := l.mergeSort fun x y => decide (x ≤ y)) (by simp only; rw [← hlen, List.take_length]) hlen
    refine ⟨rfl, _, hp, hs.imp fun h => le_ltB h, ?_, h2.mono fun b _ hb => by rw [hb]; rfl⟩
    rw [hlen]
    exact h1
end
theorem compact_upto {l : List (List UInt8)} (hs : l.Pairwise fun a b => ltB b a = false) : ∀ m, m ≤ l.length → RiseB id (Lib.compactUpTo l.toArray m) ∧ ∀ x, x ∈ Lib.compactUpTo l.toArray m ↔ x ∈ l.take m := by
  intro m
  induction m with
  | zero => intro _; exact ⟨List.Pairwise.nil, fun x => by simp [Lib.compactUpTo]⟩
  | succ m ih =>
    intro hm
    obtain ⟨h1, h2⟩ := ih (by omega)
    have hlt : m < l.length := by omega
    have hg : l.toArray[m]! = l[m] := by rw [getElem!_pos _ m (by simpa using hlt)]; simp
    have hp := List.pairwise_iff_getElem.1 hs
    rw [Lib.compactUpTo_succ, hg, List.take_succ_eq_append_getElem hlt]
    by_cases hk : Lib.keeps l.toArray m = true
    · rw [if_pos hk]
      refine ⟨?_, fun x => by rw [List.mem_append, List.mem_append, h2]⟩
      unfold RiseB at h1 ⊢
      rw [List.pairwise_append]
      refine ⟨h1, List.pairwise_singleton _ _, fun y hy x hx => ?_⟩
      rw [List.mem_singleton.1 hx]
      have hy2 := (h2 y).1 hy
      obtain ⟨i, hi, rfl⟩ := List.getElem_of_mem hy2
      rw [List.length_take] at hi
      rw [List.getElem_take]
      have hi2 : i < m := by omega
      refine ltB_total (hp i m (by omega) hlt hi2) fun e => ?_
      have e : l[m] = l[i] := e
      have hm0 : m ≠ 0 := by omega
      have hne : l[m] ≠ l[m - 1] := by
        unfold Lib.keeps at hk
        rw [decide_eq_true_iff] at hk
        rcases hk with h | h
        · exact absurd h hm0
        · rw [hg, getElem!_pos _ (m - 1) (by simp; omega)] at h
          simpa using h
      by_cases hi3 : i = m - 1
      · subst hi3; exact hne e
      · have a1 := hp i (m - 1) (by omega) (by omega) (by omega)
        have a2 := hp (m - 1) m (by omega) hlt (by omega)
        rw [← e] at a1
        have a3 := ltB_total a1 fun e2 => hne e2.symm
        rw [a3] at a2; cases a2
    · have hk' : Lib.keeps l.toArray m = false := by simpa using hk
      rw [hk', if_neg (by simp)]
      refine ⟨by rw [List.append_nil]; exact h1, fun x => ?_⟩
      rw [List.append_nil, h2, List.mem_append]
      refine ⟨.inl, fun h => h.elim id fun h => ?_⟩
      rw [List.mem_singleton.1 h]
      unfold Lib.keeps at hk'
      rw [decide_eq_false_iff_not] at hk'
      have hm0 : m ≠ 0 := fun e => hk' (.inl e)
      have he : l.toArray[m]! = l.toArray[m - 1]! := by
        by_cases e : l.toArray[m]! = l.toArray[m - 1]!
        · exact e
        · exact absurd (.inr e) hk'
      rw [hg, getElem!_pos _ (m - 1) (by simp; omega)] at he
      simp only [List.getElem_toArray] at he
      rw [he, List.mem_take_iff_getElem]
      exact ⟨m - 1, by omega, rfl⟩
theorem compact_texts {l l' : List (List UInt8)} (hp : l'.Perm l) (hs : l'.Pairwise fun a b => ltB b a = false) : Lib.compact l' = insAllB id l [] := by
  obtain ⟨h1, h2⟩ := compact_upto hs l'.length (Nat.le_refl _)
  refine riseB_eq id h1 (rise_insAllB id l List.Pairwise.nil) fun x => ?_
  have h3 := h2 x
  rw [List.take_length, hp.mem_iff] at h3
  rw [mem_texts l List.Pairwise.nil x, show (x ∈ Lib.compact l' ↔ x ∈ l) from h3]
  simp
theorem compact_len (l : List (List UInt8)) : (Lib.compact l).length ≤ l.length := by
  unfold Lib.compact Lib.compactUpTo
  rw [List.length_map]
  exact Nat.le_trans (List.length_filter_le _ _) (by simp)
theorem compactS_any {w : World} {P : Nat → Prop} {vl : Value} {l : List (List UInt8)} (h : OwnsP w P 9 1 vl l.length (l.map strV)) (hn : l.length ≤ 1100000) : Calls Tryz.prog 46 #[vl] w fun e w' => ∃ vl', e = .returned vl' ∧
    OwnsP w' P 9 1 vl' (Lib.compact l).length ((Lib.compact l).map strV) ∧ Touch (fun b => vl.ownBlock = some b) w w' := by
  rcases h.1.2 with ⟨rfl, e⟩ | ⟨g, cap, cur, rfl, _, hg, hnc, hcm, hcs, htake⟩
  · have : l = [] := List.eq_nil_of_length_eq_zero e
    subst this
    refine (Tryz.slices_Compact_string_empty none 0 w).mono ?_
    rintro e w' ⟨rfl, rfl⟩
    exact ⟨_, rfl, h, Touch.refl _ _⟩
  · refine (Tryz.slices_Compact_string g 0 cap l w (owns_holds h hg) (by omega) hnc).mono ?_
    rintro e w' ⟨rfl, q, rfl⟩
    have hlen := compact_len l
    obtain ⟨h1, h2⟩ := owns_sorted (q := q) (os := #[]) (n := (Lib.compact l).length) (d := (Lib.compact l ++ List.replicate (l.length - (Lib.compact l).length) []).toArray) h (by simp; omega) (by simp) (m := Lib.compact l) (by simp) rfl
    have e0 : sortWorld encStr w g 0 q (Lib.compact l ++ List.replicate (l.length - (Lib.compact l).length) []).toArray #[] = putRow encStr (Sort.ahead w q) g 0 (Lib.compact l ++ List.replicate (l.length - (Lib.compact l).length) []).toArray := by
      unfold sortWorld grow
      rw [Array.append_empty]
    rw [e0] at h1 h2
    exact ⟨_, rfl, h1, h2.mono fun b _ hb => by rw [hb]; rfl⟩
end Go.Proofs.YtihfnegakcghiaaGreatDoor
namespace Go.Proofs.YtihfnegakcghiaaGreatDoor
open Go.RowKit Go.Sort
theorem row_sorted {α : Type} [Inhabited α] (enc : α → Value) {t : TypeId} {w : World} {l : List α} {g cap n q : Nat} {os : Array Obj} {d : Array α} (h : w.ownsRow 0 t 1 (.slice (some ⟨g, 0, none⟩) l.length cap) l.length (l.map enc)) (hd : d.size = l.length) (hn : n ≤ d.size) {m : List α} (hm : (d.toList).take n = m) (hml : m.length = n) :
    (sortWorld enc w g 0 q d os).ownsRow 0 t 1 (.slice (some ⟨g, 0, none⟩) n cap) n (m.map enc) ∧ Touch (fun b => b = g) w (sortWorld enc w g 0 q d os) := by
  refine ⟨?_, sortWorld_touch enc w g q d os⟩
  rcases h.2 with ⟨e, _⟩ | ⟨g', cap', cur, e, _, hg, hnc, hcm, hcs, htake⟩
  · cases e
  · cases e
    have hrow := sortWorld_row enc w g q d os hg
    refine ⟨by simp [hml], .inr ⟨g, cap, _, rfl, Nat.zero_le _, hrow, by omega, hcm, ?_, ?_⟩⟩
    · rw [putCells_size]; exact hcs
    · rw [Nat.mul_one, putCells_take enc (by rw [hcs, Nat.mul_one]; omega) hn, ← hm, List.map_take]
theorem delI_any {w : World} {v : Value} {n i : Nat} {l : List Int} (hown : w.ownsRow 0 2 1 v n (l.map (Value.int .i64))) (hi : i < n) :
    Calls Tryz.prog 97 #[v, .int .i64 (i : Int), .int .i64 ((i : Int) + 1)] w fun e w' => ∃ v', e = .returned v' ∧ w'.ownsRow 0 2 1 v' (n - 1) ((l.eraseIdx i).map (Value.int .i64)) ∧ Touch (fun b => v.ownBlock = some b) w w' ∧ v'.ownBlock = v.ownBlock := by
  have hl : l.length = n := by have := hown.1; simpa using this
  rcases hown.2 with ⟨rfl, rfl⟩ | ⟨g, cap, cur, rfl, _, hg, hnc, hcm, hcs, ht⟩
  · omega
  · have hh : Holds (Value.int .i64) w g 0 l.toArray := by
      intro j hj
      have hj2 : j < l.length := by simpa using hj
      refine ⟨?_, by rw [Nat.zero_add]; exact freeOf hg⟩
      have := hown.cells (g := g) rfl j (.int .i64 l[j]) (by simp [hj2])
      rw [addr_add] at this
      rw [getElem!_pos _ j hj]
      simpa using this
    obtain ⟨i0, e1, e2, e3, e4⟩ := info_i64
    have h0 := AnyE.slices_Delete Tryz.deleteI (Value.int .i64) (fun _ => rfl) 0 (fun w => Tryz.zeroValue2 w) i0 e1 e3 g 0 cap i (i + 1) l.toArray w hh (by simpa [hl] using hnc) (by unfold maxLen at hcm; omega) (by omega) (by simp [hl]; omega)
    have hsz : l.toArray.size = n := by simpa using hl
    have hii : ((i + 1 : Nat) : Int) = (i : Int) + 1 := by omega
    rw [hsz, hii] at h0
    have h1 : n - (i + 1 - i) = n - 1 := by omega
    rw [h1] at h0
    refine h0.mono ?_
    rintro e w' ⟨rfl, q, rfl⟩
    have he : l.toArray.toList.take i ++ l.toArray.toList.drop (i + 1) = l.eraseIdx i := by simp [List.eraseIdx_eq_take_drop_succ]
    have hlen : (l.eraseIdx i).length = n - 1 := by rw [List.length_eraseIdx_of_lt (by omega), hl]
    rw [he]
    subst hl
    obtain ⟨r1, r2⟩ := row_sorted (Value.int .i64) (q := q) (os := #[]) (n := l.length - 1) (d := (l.eraseIdx i ++ List.replicate (i + 1 - i) 0).toArray) hown (by simp [hlen]; omega) (by simp [hlen]) (m := l.eraseIdx i) (by simp only; rw [← hlen]; simp) hlen
    have e0 : sortWorld (Value.int .i64) w g 0 q (l.eraseIdx i ++ List.replicate (i + 1 - i) 0).toArray #[] = putRow (Value.int .i64) (Sort.ahead w q) g 0 (l.eraseIdx i ++ List.replicate (i + 1 - i) 0).toArray := by
      unfold sortWorld grow
      rw [Array.append_empty]
    rw [e0] at r1 r2
    exact ⟨_, rfl, r1, r2.mono fun b _ hb => by rw [hb]; rfl, rfl⟩
theorem erase_rise {x : Int} : ∀ {l : List Int}, l.Pairwise (· < ·) → x ∈ l → l.eraseIdx (l.countP (· < x)) = l.filter fun y => !decide (y = x)
  | [], _, h => by simp at h
  | a :: l, h, hx => by
    have h2 := List.pairwise_cons.1 h
    by_cases ha : a < x
    · rw [List.countP_cons_of_pos (by simpa using ha), List.eraseIdx_cons_succ, List.filter_cons_of_pos (by simp; omega)]
      rcases List.mem_cons.1 hx with rfl | hx
      · omega
      · rw [erase_rise h2.2 hx]
    · have hax : a = x := by
        rcases List.mem_cons.1 hx with e | hx
        · exact e.symm
        · have := h2.1 x hx; omega
      subst hax
      have h0 : l.countP (· < a) = 0 := by
        rw [List.countP_eq_zero]
        intro b hb
        have := h2.1 b hb
        simp; omega
      rw [List.countP_cons_of_neg (by simp), h0, List.eraseIdx_cons_zero, List.filter_cons_of_neg (by simp)]
      exact (List.filter_eq_self.2 fun b hb => by have := h2.1 b hb; simp; omega).symm
theorem cutK_none {f : Int → List Int} {k x : Int} (h : (f k).contains x = false) : cutK f k x = f := by
  unfold cutK
  have hx : x ∉ f k := by simpa using h
  have : (f k).filter (fun y => !decide (y = x)) = f k := List.filter_eq_self.2 fun y hy => by
    have : y ≠ x := fun e => hx (by rw [← e]; exact hy)
    simp [this]
  rw [this, setI_id]
theorem row_cut {S : Nat → Prop} {w1 W : World} {ba : Nat} {ma maj : Int → Option Value} {f : Int → List Int} {k x : Int} (hA : AtM S W ba maj f) (hsub : ∀ b, b < w1.heap.size → Rows maj b → Rows ma b) (hT : Touch (fun b => b = ba ∨ Rows ma b) w1 W) (hS : ∀ b, W.heap.size ≤ b → S b) (hc : (f k).contains x = true) :
    Calls Tryz.prog 97 #[rowAt maj k, .int .i64 (((f k).countP (· < x) : Nat) : Int), .int .i64 ((((f k).countP (· < x) : Nat) : Int) + 1)] W.drew fun e W15 => ∃ v', e = .returned v' ∧ (∀ b, b < W.heap.size → ¬ Rows maj b → W15.heap[b]? = W.heap[b]?) ∧
        ∃ W16, (Instr.mapUpdate 70 (.map (some ba)) (.int .i64 k) v').run Tryz.prog W15 = .ok () W16 ∧ LInv S w1 W16 ba ma (cutK f k x) := by
  have hAc := hA.below (Below.refl _ W).drew
  have hrow := hAc.row k
  have hRW : ∀ b, (rowAt maj k).ownBlock = some b → Rows maj b := fun b hb => by
    unfold rowAt at hb
    cases e : maj k with
    | none => rw [e] at hb; simp [Value.ownBlock] at hb
    | some u => rw [e] at hb; exact ⟨k, u, e, hb⟩
  have hx : x ∈ f k := by simpa using hc
  have hlt : (f k).countP (· < x) < (f k).length := by
    have h1 : (f k).countP (· < x) ≤ (f k).length := List.countP_le_length
    rcases Nat.lt_or_eq_of_le h1 with h | h
    · exact h
    · rw [List.countP_eq_length] at h
      have := h x hx
      simp at this
  refine (delI_any hrow.1 hlt).mono ?_
  rintro e W15 ⟨v', rfl, i1, i2, i3⟩
  rw [erase_rise (hA.rise k) hx] at i1
  have hlen : (f k).length - 1 = ((f k).filter fun y => !decide (y = x)).length := by
    have := i1.1
    simpa using this.symm
  rw [hlen] at i1
  refine ⟨v', rfl, fun b hb hn => i2.block b hb fun e => hn (hRW b e), ?_⟩
  obtain ⟨W16, m1, m2, m3, m4⟩ := hAc.set (P := Tryz.prog) (fun b hb => hS b hb) Tryz.underlying70 Tryz.underlying2 i2 i1 (.inl i3) (List.Pairwise.sublist List.filter_sublist (hA.rise k)) (Nat.le_trans (List.length_filter_le _ _) (hA.few k))
  have hTC : Touch (fun b => b = ba ∨ Rows ma b) w1 W.drew := hT.grow (Below.refl _ W).drew
  refine ⟨W16, m1, _, m2, fun b hb hr => hsub b hb (m3 b (Nat.lt_of_lt_of_le hb hTC.size) hr), hTC.step m4 fun b hb e => ?_⟩
  rcases e with e | e
  · exact .inl e
  · exact .inr (hsub b hb e)
def cutJ (f : Int → List Int) (src dst r : Int) (j : Nat) : Int → List Int := ([src, dst].take j).foldl (fun f k => cutK f k r) f
theorem cutJ_succ (f : Int → List Int) {src dst r : Int} {j : Nat} {k : Int} (h : [src, dst][j]? = some k) : cutJ f src dst r (j + 1) = cutK (cutJ f src dst r j) k r := by
  unfold cutJ
  rw [List.take_add_one, h]
  simp
theorem cutJ_two (f : Int → List Int) (src dst r : Int) : cutJ f src dst r 2 = cutK (cutK f src r) dst r := rfl
section
variable {P : Program} {ops : Array Oper} {rest : List Oper} {Q : Exit → Act → World → Prop} {a : Act} {w w' : World} {ty : TypeId} {pos : String} {af : Array Edge} {t u : TypeId} {x y : Operand} {v m k : Value}
theorem op_delete (hr : (Builtin.delete_ #[t, u] ty #[m, k]).run P w = .ok v w') (hx : a.eval x = m) (hy : a.eval y = k) (h : wpList P ops Q rest a w') :
    wpList P ops Q (⟨none, .call { callee := .builtin .delete, args := #[x, y], argTypes := #[t, u] }, ty, pos, af, none⟩ :: rest) a w := wpList_run rfl (exec_delete rfl hx hy hr) h
end
end Go.Proofs.YtihfnegakcghiaaGreatDoor
namespace Go.Proofs.YtihfnegakcghiaaGreatDoor
open Go.RowKit
structure GA (P : Program) (t T : TypeId) (K : Nat) : Prop where
  many : ∀ {w : World} {vl : Value} {n : Nat} {ys : List Value}, w.ownsRow 0 t K vl n ys → ∀ {ad : Addr} {m c : Nat} {news : List Value}, news.length = m * K → (∀ j u, news[j]? = some u → w.cell? (ad.add j) = some u) → (∀ u ∈ news, u.oneCell' = true) → n + m ≤ 1200000 → ∀ ty : TypeId,
    ∃ v' w', (Builtin.append_ #[T, T] ty #[vl, .slice (some ad) m c]).run P w = .ok v' w' ∧ w'.ownsRow 0 t K v' (n + m) (ys ++ news) ∧ Touch (fun b => vl.ownBlock = some b) w w' ∧
      (v'.ownBlock = vl.ownBlock ∨ v'.ownBlock = some w.heap.size) ∧ w.heap.size ≤ w'.heap.size
  none : ∀ {w : World} {vl : Value} {n : Nat} {ys : List Value}, w.ownsRow 0 t K vl n ys → ∀ ty : TypeId, (Builtin.append_ #[T, T] ty #[vl, .slice none 0 0]).run P w = .ok vl w
theorem GA.of {P : Program} {t T : TypeId} {K bytes : Nat} {z : Value} (hT : P.underlying T = some (.slice t)) (h : ∃ i, P.info? t = some i ∧ i.zero = some z ∧ i.size = K ∧ i.bytes = bytes) (hz : z.cells.size = K) (hb : bytes ≤ 10000000) : GA P t T K := by
  obtain ⟨i, i1, i2, i3, i4⟩ := h
  refine ⟨?_, ?_⟩
  · intro w vl n ys hown ad m c news hl hc h1 hn ty
    exact append_law (P := P) (w := w) T ty t i z K bytes hT i1 i2 i3 i4 hz vl n ys hown ad m c news hl hc h1 (by unfold maxLen; omega) (by
      have : (n + m) * bytes ≤ 1200000 * 10000000 := Nat.mul_le_mul (by omega) hb
      omega)
  · intro w vl n ys hown ty
    exact append_law_nil (P := P) (w := w) T ty t i K hT i1 i3 vl n ys hown
def SRd (w : World) (s : List UInt8) (x : Array Value) : Prop := x = #[.string (strB s)] ∧ s.length ≤ 140737488355328
theorem RdS.grd {w : World} {p : Option Addr} {c : Nat} {l : List (List UInt8)} (h : RdS w p c l) : GRd SRd 1 w p c l := by
  obtain ⟨h1, h2, h3, h4, h5⟩ := h
  refine ⟨⟨h1, h2, h3⟩, fun ad had => ⟨(h5 ad had).1, fun j s hs => ⟨#[.string (strB s)], rfl, fun i u hu => ?_, rfl, h4 s (List.mem_of_getElem? hs)⟩⟩⟩
  have := (h5 ad had).2 j s hs
  match i, hu with
  | 0, hu =>
    cases hu
    rw [Nat.mul_one, Nat.add_zero]; exact this
  | n + 1, hu => simp at hu
section
variable {α : Type} {F : World → α → Array Value → Prop} {K : Nat} {P : Program} {t T : TypeId} {w w' W W1 : World} {l m : List α} {xs ys : List (Array Value)} {v : Value} {p : Option Addr} {c : Nat}
def FRs (F : World → α → Array Value → Prop) (w : World) (l : List α) (xs : List (Array Value)) : Prop := xs.length = l.length ∧ ∀ (j : Nat) (v : α), l[j]? = some v → ∃ x, xs[j]? = some x ∧ F w v x
theorem FRs.nil : FRs F w [] [] := ⟨rfl, fun j v h => by simp at h⟩
theorem FRs.append (h : FRs F w l xs) (g : FRs F w m ys) : FRs F w (l ++ m) (xs ++ ys) := by
  refine ⟨by simp [h.1, g.1], fun j v hv => ?_⟩
  by_cases hj : j < l.length
  · rw [List.getElem?_append_left hj] at hv
    obtain ⟨x, h1, h2⟩ := h.2 j v hv
    exact ⟨x, by rw [List.getElem?_append_left (by rw [h.1]; exact hj)]; exact h1, h2⟩
  · rw [List.getElem?_append_right (by omega)] at hv
    obtain ⟨x, h1, h2⟩ := g.2 _ v hv
    exact ⟨x, by rw [List.getElem?_append_right (by rw [h.1]; omega), h.1]; exact h1, h2⟩
theorem FRs.one {u : α} {x : Array Value} (h : F w u x) : FRs F w [u] [x] := ⟨rfl, fun j v hv => by
  match j, hv with
  | 0, hv => cases hv; exact ⟨x, rfl, h⟩
  | n + 1, hv => simp at hv⟩
theorem FRs.mem (h : FRs F w l xs) {x : Array Value} (hx : x ∈ xs) : ∃ v, F w v x := by
  obtain ⟨j, hj, rfl⟩ := List.getElem_of_mem hx
  have hj2 : j < l.length := by rw [← h.1]; exact hj
  obtain ⟨y, h1, h2⟩ := h.2 j _ (List.getElem?_eq_getElem hj2)
  rw [List.getElem?_eq_getElem hj] at h1
  cases h1
  exact ⟨_, h2⟩
theorem FRs.below (hF : EF F K) (h : FRs F w l xs) (g : Below w.heap.size w w') : FRs F w' l xs :=
  ⟨h.1, fun j v hv => by obtain ⟨x, h1, h2⟩ := h.2 j v hv; exact ⟨x, h1, hF.below h2 g⟩⟩
theorem flatG_len {xs : List (Array Value)} (h6 : ∀ x ∈ xs, x.size = K) : (xs.flatMap Array.toList).length = xs.length * K := by
  induction xs with
  | nil => simp
  | cons a r ih =>
    rw [List.flatMap_cons, List.length_append, ih fun x hx => h6 x (by simp [hx]), List.length_cons, Nat.succ_mul]
    have := h6 a (by simp)
    simp [this]; omega
theorem GRd.cells (hF : EF F K) (h : GRd F K w p c l) : ∃ xs, FRs F w l xs ∧ ∀ ad, p = some ad → ∀ (j : Nat) (u : Value), (xs.flatMap Array.toList)[j]? = some u → w.cell? (ad.add j) = some u := by
  have hx : ∀ i : Nat, ∃ x : Array Value, ∀ (hi : i < l.length), F w l[i] x ∧ ∀ ad, p = some ad → ad.spot = none ∧ ∀ (k : Nat) (u : Value), x[k]? = some u → w.cell? ⟨ad.block, ad.off + i * K + k, none⟩ = some u := by
    intro i
    by_cases hi : i < l.length
    · obtain ⟨b, o, cs, rfl, _, h6, hv⟩ := h.get hi
      exact ⟨cs, fun _ => ⟨hv, fun ad e => by cases e; exact ⟨rfl, h6⟩⟩⟩
    · exact ⟨#[], fun h => absurd h hi⟩
  obtain ⟨f, hf⟩ := Classical.axiomOfChoice hx
  have hxs : FRs F w l ((List.range l.length).map f) := by
    refine ⟨by simp, fun j v hv => ?_⟩
    obtain ⟨hj, rfl⟩ := List.getElem?_eq_some_iff.1 hv
    exact ⟨f j, by simp [hj], (hf j hj).1⟩
  refine ⟨_, hxs, fun ad had j u hu => ?_⟩
  have h6 : ∀ x ∈ (List.range l.length).map f, x.size = K := fun x hx => by obtain ⟨v, hv⟩ := hxs.mem hx; exact hF.size hv
  have hlen := flatG_len h6
  have hj : j < l.length * K := by
    have := (List.getElem?_eq_some_iff.1 hu).1
    simpa [hlen] using this
  have hK : 0 < K := by
    rcases Nat.eq_zero_or_pos K with e | e
    · rw [e] at hj; simp at hj
    · exact e
  have hq : j / K < l.length := Nat.div_lt_of_lt_mul (by rw [Nat.mul_comm]; exact hj)
  have e : j = j / K * K + j % K := by have := Nat.div_add_mod j K; rw [Nat.mul_comm] at this; omega
  have hfs := flat_K h6 (j / K) (f (j / K)) (by simp [hq]) (j % K) (Nat.mod_lt _ hK)
  rw [← e, hu] at hfs
  obtain ⟨hsp, hc⟩ := (hf _ hq).2 ad had
  have := hc (j % K) u hfs.symm
  rw [Nat.add_assoc, ← e] at this
  obtain ⟨b, o, sp⟩ := ad
  simp only at hsp this; subst hsp
  rw [addr_add]
  exact this
def ARow (F : World → α → Array Value → Prop) (t : TypeId) (K : Nat) (w W : World) (v : Value) (l : List α) : Prop := ∃ xs, OwnsP W (fun b => w.heap.size ≤ b) t K v l.length (xs.flatMap Array.toList) ∧ FRs F w l xs ∧ Below w.heap.size w W
theorem ARow.b (h : ARow F t K w W v l) : Below w.heap.size w W := by obtain ⟨_, _, _, h⟩ := h; exact h
theorem ARow.slice (h : ARow F t K w W v l) : ∃ p c, v = .slice p l.length c := by obtain ⟨_, h, _, _⟩ := h; exact slices_of h
theorem ARow.nil (h : Below w.heap.size w W) : ARow F t K w W (.slice none 0 0) ([] : List α) := ⟨[], ⟨⟨by simp, .inl ⟨rfl, rfl⟩⟩, fun g hg => by simp [Value.ownBlock] at hg⟩, .nil, h⟩
theorem ARow.below (h : ARow F t K w W v l) (g : Below W.heap.size W W1) : ARow F t K w W1 v l := by
  obtain ⟨xs, h1, h2, h3⟩ := h
  exact ⟨xs, h1.keep fun b _ hb => g.block b hb, h2, below_trans h3 g⟩
theorem ARow.cellsN (hF : EF F K) (h : FRs F w m ys) (hn : 0 < K) : ∀ x ∈ ys, x.size = K := fun x hx => by obtain ⟨v, hv⟩ := h.mem hx; exact hF.size hv
theorem ARow.many (hF : EF F K) (hA : GA P t T K) (h : ARow F t K w W v l) (hm : GRd F K w p c m) (hn : l.length + m.length ≤ 1200000) (ty : TypeId) :
    ∃ v' W', (Builtin.append_ #[T, T] ty #[v, .slice p m.length c]).run P W = .ok v' W' ∧ ARow F t K w W' v' (l ++ m) := by
  obtain ⟨xs, h1, h2, h3⟩ := h
  obtain ⟨ys, hy, hcell⟩ := hm.cells hF
  have hy6 : ∀ x ∈ ys, x.size = K := fun x hx => by obtain ⟨v, hv⟩ := hy.mem hx; exact hF.size hv
  cases p with
  | none =>
    have hc := hm.1.2.2 rfl
    have hl : m = [] := List.eq_nil_of_length_eq_zero (by have := hm.1.1; omega)
    subst hc hl
    refine ⟨v, W, hA.none h1.1 ty, ?_⟩
    rw [List.append_nil]
    exact ⟨xs, h1, h2, h3⟩
  | some ad =>
    obtain ⟨v', W2, a1, a2, a3, a4, a5⟩ := hA.many h1.1 (ad := ad) (m := m.length) (c := c) (news := ys.flatMap Array.toList)
      (by rw [flatG_len hy6, hy.1]) (fun j u hu => by
        have hq := hcell ad rfl j u hu
        have hne : m ≠ [] := by
          rintro rfl
          have e : ys = [] := List.eq_nil_of_length_eq_zero hy.1
          subst e
          simp at hu
        have hs := (hm.2 ad rfl).1 hne
        obtain ⟨b, o, sp⟩ := ad
        simp only at hs
        subst hs
        rw [addr_add] at hq ⊢
        exact belowCell h3 (ltOf hq) hq) (fun u hu => by
        obtain ⟨x, hx, hu⟩ := List.mem_flatMap.1 hu
        obtain ⟨v, hv⟩ := hy.mem hx
        exact hF.ones hv u hu) (by omega) ty
    refine ⟨v', W2, a1, xs ++ ys, ⟨?_, fun g hg => ?_⟩, h2.append hy, ?_⟩
    · rw [List.flatMap_append, List.length_append]; exact a2
    · rcases a4 with e | e
      · exact h1.2 g (e.symm.trans hg)
      · rw [e] at hg; cases hg; exact h3.size
    · exact a3.below h3 (fun b hb e => by have := h1.2 b e; omega) h3.size
theorem ARow.one (hF : EF F K) (hA : GA P t T K) (h : ARow F t K w W v l) {u : α} {x : Array Value} (hu : F w u x) (hn : l.length ≤ 1100000) (ty : TypeId) :
    ∃ v' W', (Builtin.append_ #[T, T] ty #[v, .slice (some ⟨W.heap.size, 0, none⟩) 1 1]).run P (W.alloc (.cells x t)) = .ok v' W' ∧ ARow F t K w W' v' (l ++ [u]) := by
  have g := below_new (w := W) (.cells x t)
  obtain ⟨xs, h1, h2, h3⟩ := h.below g
  obtain ⟨v', W2, a1, a2, a3, a4, a5⟩ := hA.many h1.1 (ad := ⟨W.heap.size, 0, none⟩) (m := 1) (c := 1) (news := x.toList)
    (by rw [Nat.one_mul]; simpa using hF.size hu) (fun j u hj => by rw [addr_add, Nat.zero_add]; exact cellOf (heap_alloc_new W (.cells x t)) (by simpa using hj)) (hF.ones hu) (by omega) ty
  refine ⟨v', W2, a1, xs ++ [x], ⟨?_, fun g hg => ?_⟩, h2.append (.one hu), ?_⟩
  · rw [List.flatMap_append, List.length_append]
    simpa using a2
  · rcases a4 with e | e
    · exact h1.2 g (e.symm.trans hg)
    · rw [e] at hg; cases hg; exact h3.size
  · exact a3.below h3 (fun b hb e => by have := h1.2 b e; omega) h3.size
theorem ARow.rd (hF : EF F K) (h : ARow F t K w W v l) (hn : l.length ≤ 140737488355328) : ∃ p c, v = .slice p l.length c ∧ GRd F K W p c l := by
  obtain ⟨xs, h1, h2, h3⟩ := h
  have hc := fun g => h1.1.cells (g := g)
  have h6 : ∀ x ∈ xs, x.size = K := fun x hx => by obtain ⟨v, hv⟩ := h2.mem hx; exact hF.size hv
  rcases h1.1.2 with ⟨rfl, h0⟩ | ⟨g, cap, cur, rfl, _, hg, hnc, hcm, _⟩
  · have : l = [] := List.eq_nil_of_length_eq_zero h0
    subst this
    exact ⟨none, 0, rfl, ⟨Nat.le_refl _, ⟨by simp, by omega⟩, fun _ => rfl⟩, fun ad h => by cases h⟩
  · refine ⟨some ⟨g, 0, none⟩, cap, rfl, ⟨hnc, ⟨hn, by unfold maxLen at hcm; omega⟩, fun h => by cases h⟩, fun ad had => ?_⟩
    cases had
    refine ⟨fun _ => rfl, fun j v hv => ?_⟩
    obtain ⟨x, hx, hvx⟩ := h2.2 j v hv
    refine ⟨x, hF.size hvx, fun i u hu => ?_, hF.below hvx h3⟩
    have hi : i < K := by
      have := (Array.getElem?_eq_some_iff.1 hu).1
      rw [hF.size hvx] at this; exact this
    have := hc g rfl (j * K + i) u (by rw [flat_K h6 j x hx i hi]; exact hu)
    rw [addr_add] at this
    rw [Nat.zero_add] at this ⊢
    exact this
theorem GRd.take (h : GRd F K w p c l) (n : Nat) : GRd F K w p c (l.take n) := by
  obtain ⟨⟨h1, h2, h3⟩, h4⟩ := h
  have hl : (l.take n).length ≤ l.length := by rw [List.length_take]; omega
  refine ⟨⟨by omega, ⟨by omega, h2.2⟩, h3⟩, fun ad had => ⟨fun hne => (h4 ad had).1 fun e => hne (by rw [e]; simp), fun j v hv => ?_⟩⟩
  rw [List.getElem?_take] at hv
  split at hv
  · exact (h4 ad had).2 j v hv
  · cases hv
def dropAt (p : Option Addr) (c n K : Nat) : Option Addr := if c = n then p else p.map fun ad => ⟨ad.block, ad.off + n * K, ad.spot⟩
theorem GRd.drop (h : GRd F K w p c l) {n : Nat} (hn : n ≤ l.length) : GRd F K w (dropAt p c n K) (c - n) (l.drop n) := by
  obtain ⟨⟨h1, h2, h3⟩, h4⟩ := h
  have hl : (l.drop n).length = l.length - n := List.length_drop
  refine ⟨⟨by omega, ⟨by omega, by omega⟩, fun e => ?_⟩, fun ad had => ?_⟩
  · unfold dropAt at e
    split at e
    · omega
    · cases p with
      | none => have := h3 rfl; omega
      | some ad => cases e
  · unfold dropAt at had
    split at had
    · rename_i e
      have hz : l.drop n = [] := List.eq_nil_of_length_eq_zero (by omega)
      exact ⟨fun hne => absurd hz hne, fun j v hv => by rw [hz] at hv; simp at hv⟩
    · cases p with
      | none => cases had
      | some ad0 =>
        cases had
        have h5 := h4 ad0 rfl
        refine ⟨fun hne => h5.1 fun e => hne (by rw [e]; simp), fun j v hv => ?_⟩
        rw [List.getElem?_drop] at hv
        obtain ⟨cs, q1, q2, q3⟩ := h5.2 _ v hv
        refine ⟨cs, q1, fun i u hu => ?_, q3⟩
        have := q2 i u hu
        rw [Nat.add_mul] at this
        simp only
        rw [show ad0.off + n * K + j * K + i = ad0.off + (n * K + j * K) + i by omega]
        exact this
end
end Go.Proofs.YtihfnegakcghiaaGreatDoor
namespace Go.Proofs.YtihfnegakcghiaaGreatDoor
open Go.RowKit Go.Sort
theorem noNaNs (s : ByteArray) (w : World) : Calls Tryz.prog 150 #[.string s] w fun e w' => e = .returned (.bool false) ∧ w = w' := by
  go_enter Tryz.func150, Tryz.ntmps150
  go_wp2
  go_ret
  exact ⟨rfl, rfl⟩
theorem cmpB_cases (a b : List UInt8) : (ltB a b = true ∧ cmpB a b = -1) ∨ (ltB a b = false ∧ ltB b a = true ∧ cmpB a b = 1) ∨ (ltB a b = false ∧ ltB b a = false ∧ cmpB a b = 0 ∧ a = b) := by
  have h1 := (ord_cmpB a).range b
  have h2 := (ord_cmpB a).anti b
  have h3 := @cmpB_zero a b
  unfold ltB
  by_cases e1 : cmpB a b = -1
  · left; exact ⟨by rw [e1]; rfl, e1⟩
  · by_cases e2 : cmpB a b = 0
    · right; right
      have e3 : cmpB b a = 0 := by omega
      exact ⟨by rw [e2]; rfl, by rw [e3]; rfl, e2, h3 e2⟩
    · right; left
      have e3 : cmpB a b = 1 := by omega
      have e4 : cmpB b a = -1 := by omega
      exact ⟨by rw [e3]; rfl, by rw [e4]; rfl, e3⟩
theorem cmpS_any (a b : List UInt8) (w : World) : Calls Tryz.prog 105 #[.string (strB a), .string (strB b)] w fun e w' => e = .returned (.int .i64 (cmpB a b)) ∧ w = w' := by
  have HN := Lib.hid (fun n => noNaNs n w)
  have hl : Op.bytesLess (strB a).toList (strB b).toList = ltB a b := by rw [strB_toList, strB_toList, less_eq]
  have hg : ((strB a).toList == (strB b).toList) = decide (a = b) := by rw [strB_toList, strB_toList, Bool.eq_iff_iff, beq_iff_eq, decide_eq_true_iff]
  rcases cmpB_cases a b with ⟨h1, h2⟩ | ⟨h1, h2, h3⟩ | ⟨h1, h2, h3, h4⟩
  · rw [h2]
    rw [h1] at hl
    clear hg h1 h2
    go_enter Tryz.func105, Tryz.ntmps105
    go_wp2_with (go_at_call 150; refine (HN.out _).mono ?_; rintro e w1 ⟨rfl, rfl⟩)
    go_ret
    exact ⟨rfl, rfl⟩
  · have hne : a ≠ b := fun e => by rw [e, cmpB_self] at h3; cases h3
    rw [h3]
    rw [h1] at hl
    rw [decide_eq_false hne] at hg
    clear h1 h2 h3 hne
    go_enter Tryz.func105, Tryz.ntmps105
    go_wp2_with (go_at_call 150; refine (HN.out _).mono ?_; rintro e w1 ⟨rfl, rfl⟩)
    go_ret
    exact ⟨rfl, rfl⟩
  · rw [h3]
    rw [h1] at hl
    rw [decide_eq_true h4] at hg
    clear h1 h2 h3 h4
    go_enter Tryz.func105, Tryz.ntmps105
    go_wp2_with (go_at_call 150; refine (HN.out _).mono ?_; rintro e w1 ⟨rfl, rfl⟩)
    go_ret
    exact ⟨rfl, rfl⟩
theorem sortCmp_any {w : World} {p q : PropD} {x y : Array Value} (hx : PRd w p x) (hy : PRd w q y) : Calls Tryz.prog 104 #[.agg x, .agg y] w fun e w' => e = .returned (.int .i64 (cmpB p.key q.key)) ∧ (Below w.heap.size w w' ∧ w.drawn ≤ w'.drawn) := by
  obtain ⟨xv, rfl, _, hx⟩ := hx
  obtain ⟨pk, ck, pl, cl, rfl, _⟩ := hx.open
  obtain ⟨yv, rfl, _, hy⟩ := hy
  obtain ⟨pk2, ck2, pl2, cl2, rfl, _⟩ := hy.open
  have HC := Lib.hid (fun W => cmpS_any p.key q.key W)
  clear hx hy
  go_enter Tryz.func104, Tryz.ntmps104
  go_wp2_with (go_at_call 105; refine (HC.out _).mono ?_; rintro e w1 ⟨rfl, rfl⟩)
  go_ret
  refine ⟨rfl, ⟨((Below.refl _ w).alloc (Nat.le_refl _) _).alloc (by simp) _, by simp⟩⟩
theorem grow_ofP {W w' : World} (h : Below W.heap.size W w' ∧ W.drawn ≤ w'.drawn) : ∃ q os, w' = grow (W.drewN q) os := by
  obtain ⟨⟨h1, h2, h3, h4, h5⟩, h6⟩ := h
  refine ⟨w'.drawn - W.drawn, w'.heap.extract W.heap.size w'.heap.size, ?_⟩
  have e1 : W.heap ++ w'.heap.extract W.heap.size w'.heap.size = w'.heap := by
    apply Array.ext_getElem?
    intro k
    by_cases hk : k < W.heap.size
    · rw [Array.getElem?_append_left hk]; exact (h5 k hk).symm
    · rw [Array.getElem?_append_right (by omega), Array.getElem?_extract]
      by_cases hk2 : k < w'.heap.size
      · rw [if_pos (by omega)]; congr 1; omega
      · rw [if_neg (by omega), Array.getElem?_eq_none (by omega)]
  have e2 : W.drawn + (w'.drawn - W.drawn) = w'.drawn := by omega
  show w' = { heap := W.heap ++ w'.heap.extract W.heap.size w'.heap.size, tape := W.tape, drawn := W.drawn + (w'.drawn - W.drawn), os := W.os, output := W.output }
  rw [e1, e2, ← h1, ← h2, ← h3]
structure PElem (w : World) (P : Nat → Prop) where
  v : PropD
  x : Array Value
  own : POwn w P v x
  key : v.key.length ≤ 140737488355328
  tot : totV v.val ≤ 1100000
def encP {w : World} {P : Nat → Prop} (e : PElem w P) : List Value := e.x.toList
def cmpP {w : World} {P : Nat → Prop} (a b : PElem w P) : Int := cmpB a.v.key b.v.key
theorem ltOf_cmpP {w : World} {P : Nat → Prop} (a b : PElem w P) : Go.Proofs.ltOf cmpP a b = ltB a.v.key b.v.key := by
  show decide (cmpB a.v.key b.v.key < 0) = _
  rcases cmpB_cases a.v.key b.v.key with ⟨h1, h2⟩ | ⟨h1, h2, h3⟩ | ⟨h1, h2, h3, _⟩
  · rw [h1, h2]; rfl
  · rw [h1, h3]; rfl
  · rw [h1, h3]; rfl
theorem swo_cmpP {w : World} {P : Nat → Prop} : SWO (Go.Proofs.ltOf (cmpP (w := w) (P := P))) := by
  refine ⟨fun x => ?_, fun x y z h1 h2 => ?_, fun x y z h1 h2 => ?_⟩
  · rw [ltOf_cmpP]; exact ltB_irrefl
  · rw [ltOf_cmpP] at *; exact ltB_trans h1 h2
  · rw [ltOf_cmpP] at *
    cases h : ltB x.v.key z.v.key with
    | false => rfl
    | true =>
      by_cases e : y.v.key = z.v.key
      · rw [e] at h1; rw [h] at h1; cases h1
      · have h3 := ltB_total (a := z.v.key) (b := y.v.key)
        by_cases h4 : ltB z.v.key y.v.key = true
        · have := ltB_trans h h4; rw [this] at h1; cases h1
        · have h5 := ltB_total (by simpa using h4) (fun e2 => e e2.symm)
          rw [h5] at h2; cases h2
theorem pelems_of {w : World} {P : Nat → Prop} : ∀ {l : List PropD} {xs : List (Array Value)}, GOwns POwn w P l xs → PsOk l → ∃ es : List (PElem w P), es.map PElem.v = l ∧ es.map PElem.x = xs := by
  intro l
  induction l with
  | nil => intro xs h _; exact ⟨[], rfl, (List.eq_nil_of_length_eq_zero h.1).symm⟩
  | cons a r ih =>
    intro xs h ho
    cases xs with
    | nil => have := h.1; simp at this
    | cons x q =>
      have hr : GOwns POwn w P r q := ⟨by have := h.1; simpa using this, fun j v hv => by
        obtain ⟨y, h1, h2⟩ := h.2 (j + 1) v (by simpa using hv)
        exact ⟨y, by simpa using h1, h2⟩⟩
      obtain ⟨es, e1, e2⟩ := ih hr ⟨by have := ho.1; rw [List.length_cons] at this; omega, fun p hp => ho.2 p (List.mem_cons_of_mem a hp)⟩
      obtain ⟨y, h1, h2⟩ := h.2 0 a rfl
      cases h1
      exact ⟨⟨a, x, h2, (ho.2 a (by simp)).1, (ho.2 a (by simp)).2⟩ :: es, by simp [e1], by simp [e2]⟩
theorem powns_of {w w' : World} {P : Nat → Prop} (hk : ∀ b, P b → b < w.heap.size → w'.heap[b]? = w.heap[b]?) (es : List (PElem w P)) : GOwns POwn w' P (es.map PElem.v) (es.map PElem.x) := by
  refine ⟨by simp, fun j v hv => ?_⟩
  rw [List.getElem?_map] at hv
  obtain ⟨e, he, rfl⟩ := Option.map_eq_some_iff.1 hv
  exact ⟨e.x, by rw [List.getElem?_map, he]; rfl, el_prop.keep hk e.own⟩
theorem encP_len {w : World} {P : Nat → Prop} (x : PElem w P) : (encP x).length = 7 := by have := el_prop.size x.own; simpa [encP] using this
theorem encP_ones {w : World} {P : Nat → Prop} (x : PElem w P) : ∀ v ∈ encP x, v.oneCell' = true := fun v hv => el_prop.ones x.own v hv
theorem flatP_eq {w : World} {P : Nat → Prop} [Inhabited (PElem w P)] (d : Array (PElem w P)) : flatK encP 7 d = ((d.toList.map PElem.x).flatMap Array.toList).toArray := by
  have h6 : ∀ x ∈ d.toList.map PElem.x, x.size = 7 := by
    intro x hx
    obtain ⟨e, _, rfl⟩ := List.mem_map.1 hx
    exact el_prop.size e.own
  have hl := flatG_len h6
  refine ext_get! (by simp only [size_flatK, List.size_toArray, hl]; simp) fun t ht => ?_
  have ht' : t < d.size * 7 := by simpa using ht
  rw [get_flatK _ _ _ _ ht']
  have hq : t / 7 < d.size := by omega
  have hf := flat_K h6 (t / 7) (d[t / 7]).x (by simp [hq]) (t % 7) (by omega)
  have e : t / 7 * 7 + t % 7 = t := by omega
  rw [e] at hf
  have h2 : t % 7 < (d[t / 7]).x.size := by rw [el_prop.size (d[t / 7]).own]; omega
  rw [Array.getElem?_eq_getElem h2] at hf
  have hlt : t < ((d.toList.map PElem.x).flatMap Array.toList).length := by rw [hl]; simpa using ht'
  rw [List.getElem?_eq_getElem hlt, Option.some.injEq] at hf
  rw [getElem!_pos d (t / 7) hq, getElem!_pos _ t (by simpa using hlt)]
  simp only [encP]
  rw [getElem!_pos _ (t % 7) (by simpa using h2)]
  simpa using hf.symm
theorem pcmp_lays {w : World} {P : Nat → Prop} {g n : Nat} [Inhabited (PElem w P)] (hg : g < w.heap.size) (hP : ∀ b, P b → b ≠ g) : CmpLays Tryz.prog 104 #[] (encP (w := w) (P := P)) 7 cmpP g 0 n w := by
  intro m os dk hs x y
  have hk : ∀ b, P b → b < w.heap.size → (sortWorldK encP 7 w g 0 m dk os).heap[b]? = w.heap[b]? := fun b hb hlt => sortWorld_other id w g m (flatK encP 7 dk) os hlt (hP b hb)
  have hx : PRd (sortWorldK encP 7 w g 0 m dk os) x.v x.x := (el_prop.keep hk x.own).rdO x.key x.tot
  have hy : PRd (sortWorldK encP 7 w g 0 m dk os) y.v y.x := (el_prop.keep hk y.own).rdO y.key y.tot
  generalize sortWorldK encP 7 w g 0 m dk os = W at *
  have hc := (sortCmp_any hx hy).mono (R' := fun e w' => e = .returned (.int .i64 (cmpP x y)) ∧ ∃ q os', w' = grow (W.drewN q) os') fun e w' h => ⟨h.1, grow_ofP h.2⟩
  simpa [encP] using hc
theorem sortP_any {w : World} {P : Nat → Prop} {l : List PropD} {vl : Value} (h : GIn POwn 47 7 P w vl l) (ho : PsOk l) :
    Calls Tryz.prog 103 #[vl, .func (.func 104) #[] #[]] w fun e w' => e = .returned (.tuple #[]) ∧
      ∃ l' : List PropD, l'.Perm l ∧ l'.Pairwise (fun a b => ltB b.key a.key = false) ∧ GIn POwn 47 7 P w' vl l' ∧ Touch (fun b => vl.ownBlock = some b) w w' := by
  have hlen : l.length ≤ 1100000 := ho.1
  by_cases h0 : l.length = 0
  · have e0 : l = [] := List.eq_nil_of_length_eq_zero h0
    subst e0
    obtain ⟨p, c, rfl⟩ := h.slice
    refine (AnyF.slices_SortFunc_none Tryz.sortProps p c _ w).mono ?_
    rintro e w' ⟨rfl, rfl⟩
    exact ⟨rfl, [], .refl _, .nil, h, Touch.refl _ _⟩
  · obtain ⟨xs, h1, h2⟩ := h
    rcases h1.1.2 with ⟨rfl, e⟩ | ⟨g, cap, cur, rfl, _, hg, hnc, hcm, hcs, htake⟩
    · omega
    have hglt := (Array.getElem?_eq_some_iff.1 hg).1
    have h2' : GOwns POwn w (fun b => P b ∧ b ≠ g) l xs := h2.imp el_prop fun b _ hb => ⟨hb.1, fun e => hb.2 (by rw [e]; rfl)⟩
    have hne : ∀ b, (P b ∧ b ≠ g) → b ≠ g := fun b hb => hb.2
    clear h2
    obtain ⟨es, rfl, rfl⟩ := pelems_of h2' ho
    have hel : es.length ≠ 0 := by simpa using h0
    haveI : Inhabited (PElem w fun b => P b ∧ b ≠ g) := ⟨es[0]⟩
    have hl : (es.map PElem.v).length = es.toArray.size := by simp
    have hflat := flatP_eq es.toArray
    have hflen : ((es.map PElem.x).flatMap Array.toList).length = es.length * 7 := by
      have := h1.1.1; simpa using this
    have hH : HoldsK encP 7 w g 0 es.toArray := by
      intro j hj
      rw [hflat] at hj ⊢
      have hj2 : j < ((es.map PElem.x).flatMap Array.toList).length := by simpa using hj
      refine ⟨?_, by rw [Nat.zero_add]; exact freeOf hg⟩
      have := h1.1.cells (g := g) rfl j _ (List.getElem?_eq_getElem hj2)
      rw [addr_add] at this
      rw [getElem!_pos _ j (by simpa using hj2)]
      simpa using this
    have hsz : es.toArray.size < 4611686018427387904 := by rw [← hl]; omega
    have hS := AnyQ.slices_SortFunc Tryz.sortProps 7 (fun w => Tryz.isAgg47 w) (fun w => Tryz.sizeOf47 w) encP encP_len encP_ones cmpP swo_cmpP 104 #[] g 0 cap es.toArray w
      (enters_of Tryz.func104 (by kernel_rfl) rfl) (pcmp_lays hglt hne) hH hglt hsz
    rw [← hl] at hS
    refine hS.mono ?_
    rintro e w' ⟨rfl, d', m, os, hperm, hsort, rfl⟩
    have hds : d'.size = es.length := by rw [hperm.1]; simp
    have hT := sortWorld_touch id w g m (flatK encP 7 d') os
    have hrow := sortWorld_row id w g m (flatK encP 7 d') os hg
    have hT' : Touch (fun b => b = g) w (sortWorldK encP 7 w g 0 m d' os) := hT
    have hrow' : (sortWorldK encP 7 w g 0 m d' os).heap[g]? = some (.cells (putCells id 0 (flatK encP 7 d') cur) 47 (0, 0)) := hrow
    clear hT hrow
    generalize sortWorldK encP 7 w g 0 m d' os = W at *
    have hp : d'.toList.Perm es := by
      have h3 := hperm.2.2
      rw [extract_all d' _ (by rw [hds]; simp), extract_all es.toArray _ (by simp)] at h3
      simpa using h3
    have hfl2 := flatP_eq d'
    have hlen2 : (d'.toList.map PElem.v).length = (es.map PElem.v).length := by simp [hds]
    have h62 : ∀ x ∈ d'.toList.map PElem.x, x.size = 7 := by
      intro x hx
      obtain ⟨e, _, rfl⟩ := List.mem_map.1 hx
      exact el_prop.size e.own
    have hfl6 := flatG_len h62
    rw [hfl2] at hrow'
    refine ⟨rfl, d'.toList.map PElem.v, hp.map _, ?_, ⟨d'.toList.map PElem.x, ⟨⟨?_, .inr ⟨g, cap, _, by rw [hlen2], Nat.zero_le _, hrow', by rw [hlen2]; exact hnc, hcm, ?_, ?_⟩⟩, fun q hq => h1.2 q hq⟩, ?_⟩, hT'.mono fun b _ hb => by rw [hb]; rfl⟩
    · rw [List.pairwise_map, List.pairwise_iff_getElem]
      intro i j hi hj hij
      have hi2 : i < d'.size := by simpa using hi
      have hj2 : j < d'.size := by simpa using hj
      have h5 := hsort i j (Nat.zero_le _) hij (by rw [hds] at hj2; simpa using hj2)
      rw [getElem!_pos d' i hi2, getElem!_pos d' j hj2] at h5
      rw [ltOf_cmpP] at h5
      simp only [Array.getElem_toList]
      exact h5
    · rw [hfl6]; simp
    · unfold putCells; simpa using hcs
    · have hc6 : es.length * 7 ≤ cur.size := by
        rw [hcs]; have : es.length ≤ cap := by simpa using hnc
        exact Nat.mul_le_mul_right 7 this
      apply List.ext_getElem?
      intro t
      have hfs : (List.flatMap Array.toList (List.map PElem.x d'.toList)).length = es.length * 7 := by rw [hfl6]; simp [hds]
      by_cases hlt : t < es.length * 7
      · rw [List.getElem?_take_of_lt (by simpa [hds] using hlt)]
        have h7 : t < ((List.flatMap Array.toList (List.map PElem.x d'.toList))).length := by omega
        unfold putCells
        rw [Array.getElem?_toList, Array.getElem?_mapIdx, Array.getElem?_eq_getElem (by omega), Option.map_some, if_pos ⟨Nat.zero_le _, by simpa using h7⟩, List.getElem?_eq_getElem h7, getElem!_pos _ _ (by simpa using h7)]
        simp
      · rw [List.getElem?_eq_none (by rw [List.length_take]; simp [hds]; omega), List.getElem?_eq_none (by omega)]
    · exact (powns_of (fun b hb hlt => hT'.block b hlt (hne b hb)) d'.toList).imp el_prop fun b _ hb => ⟨hb.1, fun e => hb.2 (by cases e; rfl)⟩
end Go.Proofs.YtihfnegakcghiaaGreatDoor
namespace Go.Proofs.YtihfnegakcghiaaGreatDoor
open Go.RowKit
def kM (ks : List (List UInt8)) : List UInt8 → Option Value := fun t => if t ∈ ks then some (.int .i64 1) else none
theorem kM_snoc (ks : List (List UInt8)) (k : List UInt8) : updS (kM ks) k (.int .i64 1) = kM (ks ++ [k]) := by
  funext t
  unfold updS kM
  by_cases h : t = k
  · simp [h]
  · simp [h]
theorem kM_in {ks : List (List UInt8)} {k : List UInt8} (h : k ∈ ks) : (kM ks k).getD (.int .i64 0) = .int .i64 1 := by unfold kM; rw [if_pos h]; rfl
theorem kM_out {ks : List (List UInt8)} {k : List UInt8} (h : k ∉ ks) : (kM ks k).getD (.int .i64 0) = .int .i64 0 := by unfold kM; rw [if_neg h]; rfl
def keepD (l : List PropD) : List PropD := l.filter fun p => !decide (p.val.kind = 0)
def okP0 (p : PropD) : Bool := okNm p.key && (nullV9 p.val || okSt p.val)
theorem mayStore_eq (l : List PropD) : mayStore l = (decide ((l.map PropD.key).Nodup) && l.all okP0) := rfl
section
variable {l : List PropD} {j : Nat}
theorem mayStore_twice (hj : j < l.length) (h : l[j].key ∈ (l.take j).map PropD.key) : mayStore l = false := by
  have : ¬ (l.map PropD.key).Nodup := fun hn => by
    rw [← List.take_append_drop j l, List.map_append, List.nodup_append] at hn
    exact hn.2.2 _ h l[j].key (List.mem_map_of_mem (by rw [List.drop_eq_getElem_cons hj]; exact List.mem_cons_self)) rfl
  rw [mayStore_eq, decide_eq_false this, Bool.false_and]
theorem mayStore_no (hj : j < l.length) (h : okP0 l[j] = false) : mayStore l = false := by
  have : l.all okP0 = false := by
    rw [List.all_eq_false]
    exact ⟨l[j], List.getElem_mem hj, by simp [h]⟩
  rw [mayStore_eq, this, Bool.and_false]
theorem mayStore_step (hj : j < l.length) (h : mayStore (l.take j) = true) (hk : l[j].key ∉ (l.take j).map PropD.key) (ho : okP0 l[j] = true) : mayStore (l.take (j + 1)) = true := by
  rw [mayStore_eq, Bool.and_eq_true, decide_eq_true_eq] at h ⊢
  rw [List.take_succ_eq_append_getElem hj, List.map_append, List.all_append, h.2]
  refine ⟨?_, by simp [ho]⟩
  rw [List.nodup_append]
  refine ⟨h.1, by simp, fun a ha b hb => ?_⟩
  simp at hb
  subst hb
  exact fun e => hk (by rw [← e]; exact ha)
theorem keepD_step (hj : j < l.length) : keepD (l.take (j + 1)) = keepD (l.take j) ++ (if l[j].val.kind = 0 then [] else [l[j]]) := by
  unfold keepD
  rw [List.take_succ_eq_append_getElem hj, List.filter_append]
  by_cases h : l[j].val.kind = 0
  · rw [if_pos h]; simp [h]
  · rw [if_neg h]; simp [h]
theorem keepD_len : (keepD (l.take j)).length ≤ j := Nat.le_trans (List.length_filter_le _ _) (by rw [List.length_take]; omega)
end
structure StInv (w W : World) (l : List PropD) (j : Nat) (o : Value) : Prop where
  row : GIn POwn 47 7 (fun b => w.heap.size + 1 ≤ b) W o (keepD (l.take j))
  met : StrMap W w.heap.size (kM ((l.take j).map PropD.key))
  below : Below w.heap.size w W
  may : mayStore (l.take j) = true
theorem StInv.start {w : World} (l : List PropD) : StInv w (w.alloc (.map #[] 0)) l 0 (.slice none 0 0) :=
  ⟨GIn.start, by
    have := StrMap.made w
    exact this, below_new _, rfl⟩
theorem GIn.nodes {w W : World} {vl : Value} {l : List PropD} {n : Nat} (h : GIn POwn 47 7 (fun b => n ≤ b) W vl l) : GIn POwn 47 7 (fun b => n ≤ b) W vl l := h
theorem sort_store {l l' : List PropD} (h : mayStore l = true) (hp : l'.Perm (keepD l)) (hs : l'.Pairwise fun a b => ltB b.key a.key = false) : l' = storeD l := by
  rw [mayStore_eq, Bool.and_eq_true, decide_eq_true_eq] at h
  have hn : (l'.map PropD.key).Nodup := (hp.map _).nodup_iff.2 (List.Nodup.sublist (List.filter_sublist.map _) h.1)
  have hr : RiseB PropD.key l' := by
    unfold RiseB
    rw [List.pairwise_iff_getElem] at hs ⊢
    intro i j hi hj hij
    refine ltB_total (hs i j hi hj hij) fun e => ?_
    have := (List.pairwise_iff_getElem.1 (List.nodup_iff_pairwise_ne.1 hn)) i j (by simpa using hi) (by simpa using hj) hij
    simp only [List.getElem_map] at this
    exact this e.symm
  refine riseB_eq PropD.key hr (storeD_rise l) fun x => ?_
  rw [storeD_mem h.1, hp.mem_iff]
  unfold keepD
  rw [List.mem_filter]
  simp
theorem stored_any {w : World} (hE : Env w) {p : Option Addr} {c : Nat} {l : List PropD} (h : GRd PRd 7 w p c l) (ho : PsOk l) : Calls Tryz.prog 43 #[.slice p l.length c] w fun e w' => Below w.heap.size w w' ∧ (mayStore l = false → e = .returned (.tuple #[.slice none 0 0, .bool false])) ∧
    (mayStore l = true → ∃ v, e = .returned (.tuple #[v, .bool true]) ∧ GOwn POwn 47 7 w' (fun b => w.heap.size ≤ b) v (storeD l)) := by
  have z1 : (l.length : Int) ≤ 140737488355328 := by have := h.1.2.1; omega
  have H := Lib.hid h
  have HE := Lib.hid hE
  have HO := Lib.hid ho
  have HS0 := Lib.hid (StInv.start (w := w) l)
  have hmm := @run_makeMap Tryz.prog
  clear h hE ho
  go_enter Tryz.func43, Tryz.ntmps43
  go_wp2
  go_loopw [4, 11] (fun o i wr => ∃ (j n : Nat) (p : Option Addr) (c : Nat), j ≤ l.length ∧ i = .int .i64 (j : Int) ∧ o = .slice p n c ∧ Hid (StInv w wr l j (.slice p n c))) (fun _ i _ => l.length - (intOf i).toNat)
  case atStart => exact ⟨0, 0, none, 0, Nat.zero_le _, rfl, rfl, HS0⟩
  case round =>
    clear HS0
    obtain ⟨j, no, po, co, hj, rfl, rfl, HJ⟩ := hrel
    by_cases hlt : j < l.length
    · have hlt1 : j + 1 ≤ l.length := hlt
      have hbw := HJ.out.below
      obtain ⟨b, of, cs, rfl, hs, hc, hv⟩ := H.out.get hlt
      have htv := (HO.out.2 l[j] (List.getElem_mem hlt)).2
      have hl1 : (keepD (l.take j)).length ≤ 1100000 := by have := keepD_len (l := l) (j := j); have := HO.out.1; omega
      have hv2 := hv
      have htwice := mayStore_twice hlt
      have hno := mayStore_no hlt
      have hstep := mayStore_step hlt HJ.out.may
      have hkeep := keepD_step hlt
      have htk : (l.take (j + 1)).map PropD.key = (l.take j).map PropD.key ++ [l[j].key] := by rw [List.take_succ_eq_append_getElem hlt, List.map_append]; rfl
      obtain ⟨xv, ex, hkx, hvx⟩ := hv
      have hbn := below_new (w := wr) (.cells cs 47)
      have hbx := heap_alloc_new wr (.cells cs 47)
      have k0 : cs[0]? = some (.string (strB l[j].key)) := by rw [ex, Array.getElem?_append_left (by simp)]; rfl
      have k1 : ∀ (i : Nat) (u : Value), xv[i]? = some u → cs[1 + i]? = some u := fun i u hu => by rw [ex, Array.getElem?_append_right (by simp)]; simpa using hu
      have kk : xv[0]? = some (.int .i64 l[j].val.kind) := by obtain ⟨_, _, _, _, rfl, _⟩ := hvx.open; rfl
      have HL1 := Lib.hid (StT.load (P := Tryz.prog) (g := b) (o := of + j * 7) (W := wr) st_prop hs fun i u hu => belowCell hbw (ltOf (hc i u hu)) (hc i u hu))
      have HS1 := Lib.hid (StT.fresh st_prop hs (ef_prop.ones hv2) (W := wr))
      have hmt := HJ.out.met.grow hbn
      have hlk := run_lookup_str (P := Tryz.prog) (T := 143) hmt Tryz.underlying143 Tryz.underlying9 (fun w => Tryz.zeroValue3 w) l[j].key
      have hne : wr.heap.size ≠ w.heap.size := fun e => by have := HJ.out.met.lt; omega
      have hbw2 := below_trans hbw hbn
      have hvb : ∀ W, Below wr.heap.size wr W → VRd W l[j].val xv := fun W g => (hvx.below hbw).below g
      have hrow := HJ.out.row
      have hokp : okP0 l[j] = (okNm l[j].key && (nullV9 l[j].val || (okV l[j].val && storB l[j].val))) := rfl
      rw [hokp] at hno hstep
      clear hokp
      have hlj : (⟨l[j].key, l[j].val⟩ : PropD) = l[j] := rfl
      rw [← hlj] at hkeep
      clear hlj hv2 ex hs hc
      generalize (l.take j).map PropD.key = ks at *
      generalize l[j].key = key at *
      generalize l[j].val = val at *
      have pk1 := cellOf (o := 0) hbx k0
      by_cases hin : key ∈ ks
      · -- met before
        have HF := Lib.hid (htwice hin)
        rw [kM_in hin] at hlk
        obtain ⟨W3, hup, hT3, hM3, hz3⟩ := run_mapUpdate_str (P := Tryz.prog) (T := 143) hmt Tryz.underlying143 Tryz.underlying9 key (.int .i64 2)
        have hb3 : Below w.heap.size w W3 := hT3.below hbw2 (fun b hb e => by omega) hbw2.size
        have hbx3 := hT3.heap hbx hne
        have pk3 := cellOf (o := 0) hbx3 k0
        have hnm := wname_any (HE.out.b hb3) key hkx
        have hlk4 : ∀ W4, Below W3.heap.size W3 W4 → (Instr.lookup 143 (.map (some w.heap.size)) (.string (strB key)) false).run Tryz.prog W4 = .ok (.int .i64 2) W4 := fun W4 g => by
          have := run_lookup_str (P := Tryz.prog) (T := 143) (hM3.grow g) Tryz.underlying143 Tryz.underlying9 (fun w => Tryz.zeroValue3 w) key
          rw [this]; unfold updS; simp
        have HK4 := Lib.hid hlk4
        have H1 := Lib.hid hlk
        have H2 := Lib.hid hup
        have HNM := Lib.hid hnm
        have HB3 := Lib.hid hb3
        have HC3 := Lib.hid (And.intro hbx3 k0)
        clear hup hT3 hM3 hz3 hb3 hbx3 hnm hlk4 hlk hmt hin htwice hno hstep hkeep htk hbn hbx k0 k1 kk hbw hbw2 hvx hvb hrow hl1 htv HJ
        cases hok : okNm key with
        | false =>
          rw [hok] at HNM
          go_wp2_with (first
            | ((with_reducible apply op_load); exact HL1.out; exact rfl; clear HL1)
            | ((with_reducible apply op_store); exact HS1.out _ rfl; exact rfl; exact rfl; clear HS1)
            | ((with_reducible apply op_lookup); exact H1.out; exact rfl; exact rfl; clear H1)
            | ((with_reducible apply op_mapUpdate); exact H2.out; exact rfl; exact rfl; exact rfl; clear H2)
            | (go_at_call 49
               (
                refine HNM.out.mono ?_
                rintro e W4 ⟨rfl, hb⟩
                have HB4 := Lib.hid (below_trans HB3.out hb)
                clear hb)))
          go_ret2
          exact ⟨HB4.out, fun _ => rfl, fun h => absurd (h.symm.trans HF.out) (by decide)⟩
        | true =>
          rw [hok] at HNM
          go_wp2_with (first
            | ((with_reducible apply op_load); exact HL1.out; exact rfl; clear HL1)
            | ((with_reducible apply op_store); exact HS1.out _ rfl; exact rfl; exact rfl; clear HS1)
            | ((with_reducible apply op_lookup); exact H1.out; exact rfl; exact rfl; clear H1)
            | ((with_reducible apply op_mapUpdate); exact H2.out; exact rfl; exact rfl; exact rfl; clear H2)
            | ((with_reducible apply op_lookupH); exact HK5.out; exact rfl; exact rfl; exact rfl; clear HK5)
            | (go_at_call 49
               (
                refine HNM.out.mono ?_
                rintro e W4 ⟨rfl, hb⟩
                have HK5 := Lib.hid (HK4.out W4 hb)
                have HB4 := Lib.hid (below_trans HB3.out hb)
                have pk4 := cellOf (o := 0) (belowBlk hb (Array.getElem?_eq_some_iff.1 HC3.out.1).1 HC3.out.1) HC3.out.2
                clear hb)))
          go_ret2
          exact ⟨HB4.out, fun _ => rfl, fun h => absurd (h.symm.trans HF.out) (by decide)⟩
      · -- new
        rw [kM_out hin] at hlk
        obtain ⟨W3, hup, hT3, hM3, hz3⟩ := run_mapUpdate_str (P := Tryz.prog) (T := 143) hmt Tryz.underlying143 Tryz.underlying9 key (.int .i64 1)
        rw [kM_snoc, ← htk] at hM3
        have hb3 : Below w.heap.size w W3 := hT3.below hbw2 (fun b hb e => by omega) hbw2.size
        have hbx3 := hT3.heap hbx hne
        have pk3 := cellOf (o := 0) hbx3 k0
        have hnm := wname_any (HE.out.b hb3) key hkx
        have hkin : key ∈ (l.take (j + 1)).map PropD.key := by rw [htk]; simp
        have hlk4 : ∀ W4, Below W3.heap.size W3 W4 → (Instr.lookup 143 (.map (some w.heap.size)) (.string (strB key)) false).run Tryz.prog W4 = .ok (.int .i64 1) W4 := fun W4 g => by
          have := run_lookup_str (P := Tryz.prog) (T := 143) (hM3.grow g) Tryz.underlying143 Tryz.underlying9 (fun w => Tryz.zeroValue3 w) key
          rw [this, kM_in hkin]
        have hvx3 : ∀ W4, Below W3.heap.size W3 W4 → VRd W4 val xv := fun W4 g => by
          have h1 : VRd W3 val xv := by
            have h0 := hvx
            exact h0.below hb3
          exact h1.below g
        have hlv : ∀ W : World, W.heap[wr.heap.size]? = some (.cells cs 47 (0, 0)) → (loadVar 31 ⟨wr.heap.size, 1, none⟩).run Tryz.prog W = .ok (.agg xv) W := fun W hW => StT.load (P := Tryz.prog) (g := wr.heap.size) (o := 1) (W := W) st_val (ef_val.size hvx) fun i u hu => cellOf (o := 1 + i) hW (k1 i u hu)
        have hbox : ∀ b, Value.ownBlock (.slice po no co) = some b → b ≠ wr.heap.size := fun b e => by have := (hrow.lt b e).1; omega
        have hrow3 : GIn POwn 47 7 (fun b => w.heap.size + 1 ≤ b) W3 (.slice po no co) (keepD (l.take j)) := hrow.kept el_prop (fun b hp hl => by
          have e1 : (wr.alloc (.cells cs 47)).heap[b]? = wr.heap[b]? := hbn.block b hl
          rw [← e1]
          exact hT3.block b (by have := hbn.size; omega) (by omega)) fun b _ hp => hp
        have HK4 := Lib.hid hlk4
        have H1 := Lib.hid hlk
        have H2 := Lib.hid hup
        have HNM := Lib.hid hnm
        have HB3 := Lib.hid hb3
        have HC3 := Lib.hid (And.intro hbx3 (And.intro k0 (k1 0 _ kk)))
        have HV3 := Lib.hid hvx3
        have HLV := Lib.hid hlv
        have HR := Lib.hid (And.intro hrow3 (And.intro hM3 hl1))
        have HHT := Lib.hid htv
        have HNO := Lib.hid hno
        have HST := Lib.hid (hstep hin)
        have HKP := Lib.hid hkeep
        clear hup hT3 hM3 hz3 hb3 hbx3 hnm hlk4 hlk hmt hin htwice hno hstep hkeep htk hbn hbx k0 k1 kk hbw hbw2 hvx hvb hrow hl1 htv HJ hkin hvx3 hlv hrow3
        cases hok : okNm key with
        | false =>
          rw [hok] at HNM
          have HF := Lib.hid (HNO.out (by rw [hok]; rfl))
          go_wp2_with (first
            | ((with_reducible apply op_load); exact HL1.out; exact rfl; clear HL1)
            | ((with_reducible apply op_store); exact HS1.out _ rfl; exact rfl; exact rfl; clear HS1)
            | ((with_reducible apply op_lookup); exact H1.out; exact rfl; exact rfl; clear H1)
            | ((with_reducible apply op_mapUpdate); exact H2.out; exact rfl; exact rfl; exact rfl; clear H2)
            | (go_at_call 49
               (
                refine HNM.out.mono ?_
                rintro e W4 ⟨rfl, hb⟩
                have HB4 := Lib.hid (below_trans HB3.out hb)
                clear hb)))
          go_ret2
          exact ⟨HB4.out, fun _ => rfl, fun h => absurd (h.symm.trans HF.out) (by decide)⟩
        | true =>
          rw [hok] at HNM
          by_cases hk0 : val.kind = 0
          · cases hcv : decide (checkV Lib.validD val = 0) with
            | true =>
              have hc0 : checkV Lib.validD val = 0 := by simpa using hcv
              have HN0 := Lib.hid (show nullV9 val = true by unfold nullV9 okV; simp [hk0, hc0])
              have HCV := Lib.hid hc0
              have HK0 := Lib.hid hk0
              clear hcv hc0
              generalize hkk : val.kind = kd at *
              subst hk0
              go_wp2_with (first
                | ((with_reducible apply op_load); exact HL1.out; exact rfl; clear HL1)
                | ((with_reducible apply op_store); exact HS1.out _ rfl; exact rfl; exact rfl; clear HS1)
                | ((with_reducible apply op_lookup); exact H1.out; exact rfl; exact rfl; clear H1)
                | ((with_reducible apply op_mapUpdate); exact H2.out; exact rfl; exact rfl; exact rfl; clear H2)
                | ((with_reducible apply op_lookupH); exact HK5.out; exact rfl; exact rfl; exact rfl; clear HK5)
                | ((with_reducible apply op_loadH); exact HL5.out; exact rfl; exact rfl; clear HL5)
                | (go_at_call 49
                   (
                    refine HNM.out.mono ?_
                    rintro e W4 ⟨rfl, hb⟩
                    have HK5 := Lib.hid (HK4.out W4 hb)
                    have hx4 := belowBlk hb (Array.getElem?_eq_some_iff.1 HC3.out.1).1 HC3.out.1
                    have pk4 := cellOf (o := 0) hx4 HC3.out.2.1
                    have pk5 := cellOf (o := 1) hx4 HC3.out.2.2
                    have HL5 := Lib.hid (HLV.out W4 hx4)
                    have hck := check_ok (HE.out.b (below_trans HB3.out hb)) (HV3.out W4 hb) (Nat.le_trans HHT.out (by decide))
                    rw [HCV.out] at hck
                    have HCK := Lib.hid hck
                    have HB4 := Lib.hid (below_trans HB3.out hb)
                    have HB43 := Lib.hid hb
                    clear hb hx4 hck))
                | (go_at_call 100
                   (
                    refine HCK.out.mono ?_
                    rintro e W5 ⟨rfl, hb⟩
                    have HB5 := Lib.hid (below_trans HB43.out hb)
                    clear hb)))
              go_roundw
              case rel =>
                refine ⟨j + 1, _, _, _, hlt1, by go_num, rfl, Lib.hid ⟨?_, HR.out.2.1.grow HB5.out, below_trans HB3.out HB5.out, HST.out (by rw [hok, HN0.out]; rfl)⟩⟩
                rw [HKP.out, if_pos HK0.out, List.append_nil]
                exact HR.out.1.kept el_prop (fun b _ hl => HB5.out.block b hl) fun b _ hp => hp
              case measure => simp [intOf]; omega
            | false =>
              have hcv0 : ¬ checkV Lib.validD val = 0 := by simpa using hcv
              have hov : okV val = false := by unfold okV; rw [beq_eq_false_iff_ne]; exact hcv0
              have HF := Lib.hid (HNO.out (by rw [hok, hov]; unfold nullV9; rw [hov]; simp))
              have hcb : (checkV Lib.validD val == 0) = false := by rw [beq_eq_false_iff_ne]; exact hcv0
              have HOV := Lib.hid hov
              have HKD := Lib.hid hk0
              clear hcv hov
              generalize hck0 : checkV Lib.validD val = ck at *
              have HCV := Lib.hid hck0
              clear hck0
              generalize hkk : val.kind = kd at *
              subst hk0
              go_wp2_with (first
                | ((with_reducible apply op_load); exact HL1.out; exact rfl; clear HL1)
                | ((with_reducible apply op_store); exact HS1.out _ rfl; exact rfl; exact rfl; clear HS1)
                | ((with_reducible apply op_load); exact HL6.out; exact rfl; clear HL6)
                | ((with_reducible apply op_lookup); exact H1.out; exact rfl; exact rfl; clear H1)
                | ((with_reducible apply op_mapUpdate); exact H2.out; exact rfl; exact rfl; exact rfl; clear H2)
                | ((with_reducible apply op_lookupH); exact HK5.out; exact rfl; exact rfl; exact rfl; clear HK5)
                | ((with_reducible apply op_loadH); exact HL5.out; exact rfl; exact rfl; clear HL5)
                | (go_at_call 49
                   (
                    refine HNM.out.mono ?_
                    rintro e W4 ⟨rfl, hb⟩
                    have HK5 := Lib.hid (HK4.out W4 hb)
                    have hx4 := belowBlk hb (Array.getElem?_eq_some_iff.1 HC3.out.1).1 HC3.out.1
                    have pk4 := cellOf (o := 0) hx4 HC3.out.2.1
                    have pk5 := cellOf (o := 1) hx4 HC3.out.2.2
                    have HL5 := Lib.hid (HLV.out W4 hx4)
                    have hck := check_ok (HE.out.b (below_trans HB3.out hb)) (HV3.out W4 hb) (Nat.le_trans HHT.out (by decide))
                    rw [HCV.out] at hck
                    have HCK := Lib.hid hck
                    have HB4 := Lib.hid (below_trans HB3.out hb)
                    have HB43 := Lib.hid hb
                    clear hb hx4 hck))
                | (go_at_call 100
                   (
                    refine HCK.out.mono ?_
                    rintro e W5 ⟨rfl, hb⟩
                    have hb5 := below_trans HB43.out hb
                    have hx5 := belowBlk hb5 (Array.getElem?_eq_some_iff.1 HC3.out.1).1 HC3.out.1
                    have HL6 := Lib.hid (HLV.out W5 hx5)
                    have hsq := storable_any (HE.out.b (below_trans HB3.out hb5)) (HV3.out W5 hb5) (Nat.le_trans HHT.out (by decide))
                    rw [HOV.out, Bool.false_and] at hsq
                    have HSQ := Lib.hid hsq
                    have HB5 := Lib.hid hb5
                    clear hb hb5 hx5 hsq))
                | (go_at_call 101
                   (
                    refine HSQ.out.mono ?_
                    rintro e W6 ⟨rfl, hb⟩
                    have HB6 := Lib.hid (below_trans HB3.out (below_trans HB5.out hb))
                    clear hb)))
              go_ret2
              exact ⟨HB6.out, fun _ => rfl, fun h => absurd (h.symm.trans HF.out) (by decide)⟩
          · have HK0 := Lib.hid hk0
            have HN0 := Lib.hid (show nullV9 val = false by unfold nullV9; rw [decide_eq_false hk0]; rfl)
            have hkb : (val.kind == 0) = false := by rw [beq_eq_false_iff_ne]; exact hk0
            cases hsq : (okV val && storB val) with
            | false =>
              have HF := Lib.hid (HNO.out (by rw [hok, hsq, HN0.out]; rfl))
              have HSV := Lib.hid hsq
              clear hsq
              generalize val.kind = kd at *
              go_wp2_with (first
                | ((with_reducible apply op_load); exact HL1.out; exact rfl; clear HL1)
                | ((with_reducible apply op_store); exact HS1.out _ rfl; exact rfl; exact rfl; clear HS1)
                | ((with_reducible apply op_load); exact HL6.out; exact rfl; clear HL6)
                | ((with_reducible apply op_lookup); exact H1.out; exact rfl; exact rfl; clear H1)
                | ((with_reducible apply op_mapUpdate); exact H2.out; exact rfl; exact rfl; exact rfl; clear H2)
                | ((with_reducible apply op_lookupH); exact HK5.out; exact rfl; exact rfl; exact rfl; clear HK5)
                | (go_at_call 49
                   (
                    refine HNM.out.mono ?_
                    rintro e W4 ⟨rfl, hb⟩
                    have HK5 := Lib.hid (HK4.out W4 hb)
                    have hx4 := belowBlk hb (Array.getElem?_eq_some_iff.1 HC3.out.1).1 HC3.out.1
                    have pk4 := cellOf (o := 0) hx4 HC3.out.2.1
                    have pk5 := cellOf (o := 1) hx4 HC3.out.2.2
                    have HL6 := Lib.hid (HLV.out W4 hx4)
                    have hsq := storable_any (HE.out.b (below_trans HB3.out hb)) (HV3.out W4 hb) (Nat.le_trans HHT.out (by decide))
                    rw [HSV.out] at hsq
                    have HSQ := Lib.hid hsq
                    have HB4 := Lib.hid (below_trans HB3.out hb)
                    clear hb hx4 hsq))
                | (go_at_call 101
                   (
                    refine HSQ.out.mono ?_
                    rintro e W6 ⟨rfl, hb⟩
                    have HB6 := Lib.hid (below_trans HB4.out hb)
                    clear hb)))
              go_ret2
              exact ⟨HB6.out, fun _ => rfl, fun h => absurd (h.symm.trans HF.out) (by decide)⟩
            | true =>
              have HSV := Lib.hid hsq
              clear hsq
              have hkd : ∃ kd, kd = val.kind := ⟨_, rfl⟩
              obtain ⟨kd, hkd⟩ := hkd
              rw [← hkd] at hkb hk0 HC3
              have HKD := Lib.hid hkd
              clear hkd
              go_wp2_with (first
                | ((with_reducible apply op_load); exact HL1.out; exact rfl; clear HL1)
                | ((with_reducible apply op_store); exact HS1.out _ rfl; exact rfl; exact rfl; clear HS1)
                | ((with_reducible apply op_load); exact HL6.out; exact rfl; clear HL6)
                | ((with_reducible apply op_lookup); exact H1.out; exact rfl; exact rfl; clear H1)
                | ((with_reducible apply op_mapUpdate); exact H2.out; exact rfl; exact rfl; exact rfl; clear H2)
                | ((with_reducible apply op_lookupH); exact HK5.out; exact rfl; exact rfl; exact rfl; clear HK5)
                | (go_at_call 49
                   (
                    refine HNM.out.mono ?_
                    rintro e W4 ⟨rfl, hb⟩
                    have HK5 := Lib.hid (HK4.out W4 hb)
                    have hx4 := belowBlk hb (Array.getElem?_eq_some_iff.1 HC3.out.1).1 HC3.out.1
                    have pk4 := cellOf (o := 0) hx4 HC3.out.2.1
                    have pk5 := cellOf (o := 1) hx4 HC3.out.2.2
                    have HL6 := Lib.hid (HLV.out W4 hx4)
                    have hsq := storable_any (HE.out.b (below_trans HB3.out hb)) (HV3.out W4 hb) (Nat.le_trans HHT.out (by decide))
                    rw [HSV.out] at hsq
                    have HSQ := Lib.hid hsq
                    have HB43 := Lib.hid hb
                    clear hb hx4 hsq))
                | (go_at_call 101
                   (
                    refine HSQ.out.mono ?_
                    rintro e W6 ⟨rfl, hb⟩
                    have HB6 := Lib.hid (below_trans HB43.out hb)
                    clear hb)))
              have hb36 := HB6.out
              have hx6 := belowBlk hb36 (Array.getElem?_eq_some_iff.1 HC3.out.1).1 HC3.out.1
              have k0 := HC3.out.2.1
              have hlv := HLV.out
              have hcall := copy_any val HHT.out W6.drew xv (HV3.out W6.drew hb36.drew)
              have hS0 : W6.drew.heap[wr.heap.size]? = some (.cells cs 47 (0, 0)) := hx6
              have hsz3 := Array.getElem?_eq_some_iff.1 HC3.out.1 |>.1
              refine plain_region_draws (fun W => W.heap[wr.heap.size]? = some (.cells cs 47 (0, 0))) (by kernel_rfl) hS0 (fun hS => ?_)
              refine tk 0 45 (v := .slice po no co) rfl rfl (fun W hW => exec_move rfl rfl) ?_
              simp only [Act.put, sA, sZ, sS]
              refine tk 1 46 (v := .pointer (some ⟨wr.heap.size, 0, none⟩)) rfl rfl (fun W hW => exec_fieldAddr rfl rfl (fa_prop0 _ W)) ?_
              simp only [Act.put, sA, sZ, sS]
              refine tk 2 47 (v := .string (strB key)) rfl rfl (fun W hW => exec_load rfl rfl (run_load1 (w := W) Tryz.underlying9 rfl (cellOf (o := 0) hW k0))) ?_
              simp only [Act.put, sA, sZ, sS]
              refine tk 3 48 (v := .pointer (some ⟨wr.heap.size, 1, none⟩)) rfl rfl (fun W hW => exec_fieldAddr rfl rfl (fa_prop1 _ W)) ?_
              simp only [Act.put, sA, sZ, sS]
              refine tk 4 49 (v := .agg xv) rfl rfl (fun W hW => exec_load rfl rfl (hlv W hW)) ?_
              simp only [Act.put, sA, sZ, sS]
              refine onlyCall 5 50 rfl rfl (by kernel_rfl) rfl (exec_call [.agg xv] rfl rfl Tryz.func102 (by kernel_rfl) (by kernel_rfl)) ?_
              refine hcall.mono ?_
              rintro e W7 ⟨x, rfl, hx, hb⟩
              have hs := hx.size6
              obtain ⟨u0, u1, u2, u3, u4, u5, rfl⟩ := six hs
              clear hs
              have hb7 : Below W6.heap.size W6 W7 := below_trans (Below.refl _ W6).drew hb
              have hb37 := below_trans hb36 hb7
              have hsz : W3.heap.size ≤ W7.heap.size := hb37.size
              have hS5 : W7.heap[wr.heap.size]? = some (.cells cs 47 (0, 0)) := belowBlk hb7 (Array.getElem?_eq_some_iff.1 hx6).1 hx6
              have hp : POwn W7 (fun b => W3.heap.size ≤ b ∧ w.heap.size + 1 ≤ b) ⟨key, val⟩ (#[.string (strB key)] ++ #[u0, u1, u2, u3, u4, u5]) := ⟨_, rfl, hx.imp fun b _ hb => by have hb' : W6.heap.size ≤ b := hb; have := hb36.size; have := HB3.out.size; have := HR.out.2.1.lt; omega⟩
              obtain ⟨v', W8, a1, a2, a3⟩ := HR.out.1.step el_prop gt_prop (W1 := W7) (P' := fun b => w.heap.size + 1 ≤ b) (fun b _ hl => hb37.block b hl) hsz (fun b _ hp => hp) (fun b hb => by have := HR.out.2.1.lt; omega) hp HR.out.2.2 27
              obtain ⟨p6, c6, rfl⟩ := a2.slice
              generalize (keepD (l.take j) ++ [(⟨key, val⟩ : PropD)]).length = n6 at *
              have e7 : #[Value.string (strB key)] ++ #[u0, u1, u2, u3, u4, u5] = #[Value.string (strB key), u0, u1, u2, u3, u4, u5] := rfl
              rw [e7] at a1 a3
              have hbs := run_buildSlice_one (P := Tryz.prog) (w := W7) (v := .agg #[.string (strB key), u0, u1, u2, u3, u4, u5]) Tryz.underlying27 Tryz.sizeOf47 Tryz.zeroValue47 rfl (by omega) (by omega)
              have hS7 : (W7.alloc (.cells #[.string (strB key), u0, u1, u2, u3, u4, u5] 47)).heap[wr.heap.size]? = some (.cells cs 47 (0, 0)) := belowBlk (below_new _) (Array.getElem?_eq_some_iff.1 hS5).1 hS5
              have hown : ∀ b, Value.ownBlock (.slice po no co) = some b → b < W3.heap.size ∧ w.heap.size + 1 ≤ b := fun b e => HR.out.1.lt b e
              have hS8 : W8.heap[wr.heap.size]? = some (.cells cs 47 (0, 0)) := (a3.block _ (Array.getElem?_eq_some_iff.1 hS7).1 (fun e => hbox _ e rfl)).trans hS7
              have hb38 : Below w.heap.size w (W7.alloc (.cells #[.string (strB key), u0, u1, u2, u3, u4, u5] 47)) := below_trans (below_trans HB3.out hb37) (below_new _)
              have hbl : Below w.heap.size w W8 := a3.below hb38 (fun b hb e => by have := (hown b e).2; omega) hb38.size
              have hmet : StrMap W8 w.heap.size (kM ((l.take (j + 1)).map PropD.key)) := (((HR.out.2.1.grow hb37).grow (below_new (.cells #[.string (strB key), u0, u1, u2, u3, u4, u5] 47))).touch a3 fun e => by have := (hown _ e).2; omega)
              clear hb37 hsz hp e7 hb38 hown
              refine ⟨_, rfl, .inr hS5, ?_⟩
              simp only [Act.put, sA, sZ, sS]
              refine tk 6 51 (v := .agg #[.string (strB key), u0, u1, u2, u3, u4, u5]) rfl rfl (fun W hW => exec_buildProp rfl rfl rfl) ?_
              simp only [Act.put, sA, sZ, sS]
              refine onlyRun 7 52 (v := .slice (some ⟨W7.heap.size, 0, none⟩) 1 1) rfl rfl (by kernel_rfl) rfl (exec_buildSlice1 rfl rfl hbs) (.inr (by assumption)) ?_
              simp only [Act.put, sA, sZ, sS]
              refine onlyRun 8 53 (v := .slice p6 n6 c6) rfl rfl (by kernel_rfl) rfl (exec_append rfl rfl rfl a1) (.inr (by assumption)) ?_
              simp only [Act.put, sA, sZ, sS]
              refine tk 9 4 (v := .slice p6 n6 c6) rfl rfl (fun W hW => exec_assign rfl rfl) ?_
              simp only [Act.put, sA, sZ, sS]
              refine done (by kernel_rfl) ?_ _
              have HN := Lib.hid (show StInv w W8 l (j + 1) (.slice p6 n6 c6) from ⟨by rw [HKP.out, if_neg HK0.out]; exact a2, hmet, hbl, HST.out (by rw [hok, HN0.out, HSV.out]; rfl)⟩)
              clear hb36 hx6 k0 hlv hcall hS0 hS hsz3 hbl hmet a2
              go_wp2
              go_roundw
              case rel => exact ⟨j + 1, _, _, _, hlt1, by go_num, rfl, HN⟩
              case measure => simp [intOf]; omega
    · obtain rfl : j = l.length := by omega
      have h := HJ.out
      have hr := h.row
      have hm := h.may
      rw [List.take_length] at hr hm
      have hps : PsOk (keepD l) := ⟨Nat.le_trans (List.length_filter_le _ _) HO.out.1, fun p hp => HO.out.2 p (List.mem_filter.1 hp).1⟩
      have HSRT := Lib.hid (sortP_any hr hps)
      have HM := Lib.hid (And.intro hm (And.intro h.below hr))
      clear h hr hm hps HJ
      go_wp2_with (first
        | (go_at_call 103
           (
            refine HSRT.out.mono ?_
            rintro e W2 ⟨rfl, l', hp, hs, ho, hT⟩
            have hb2 : Below w.heap.size w W2 := hT.below HM.out.2.1 (fun b hb e => by have := (HM.out.2.2.lt b e).2; omega) HM.out.2.1.size
            have HR := Lib.hid (And.intro hb2 (And.intro (sort_store HM.out.1 hp hs) (ho.own el_prop)))
            clear hp hs ho hT hb2)))
      go_ret2
      refine ⟨HR.out.1, fun h => absurd (h.symm.trans HM.out.1) (by decide), fun _ => ⟨_, rfl, ?_⟩⟩
      have ho := HR.out.2.2
      rw [HR.out.2.1] at ho
      exact ho.imp el_prop fun b _ hb => by omega
end Go.Proofs.YtihfnegakcghiaaGreatDoor
namespace Go.Proofs.YtihfnegakcghiaaGreatDoor
open Go.RowKit
theorem badName2_any {w : World} (hE : Env w) (s : List UInt8) (hs : s.length ≤ 140737488355328) : Calls Tryz.prog 48 #[.string (strB s)] w fun e w' => e = .returned (.bool (!okNm s)) ∧ Below w.heap.size w w' := by
  have HV := Lib.hid (wname_any hE s hs)
  clear hE
  generalize okNm s = r at *
  go_enter Tryz.func48, Tryz.ntmps48
  go_wp2_with (go_at_call 49; refine HV.out.mono ?_; rintro e W1 ⟨rfl, hb⟩; have HB := Lib.hid hb; clear hb)
  go_ret
  exact ⟨rfl, HB.out⟩
theorem badIdx2_any {w : World} (hE : Env w) {p : Option Addr} {c : Nat} {l : List (List UInt8)} (h : RdS w p c l) : Calls Tryz.prog 108 #[.slice p l.length c, .func (.func 48) #[] #[]] w fun e w' => e = .returned (.int .i64 (badAt l)) ∧ Below w.heap.size w w' := by
  have z1 : (l.length : Int) ≤ 140737488355328 := by have := h.2.1.1; omega
  have H := Lib.hid h
  have HE := Lib.hid hE
  clear h hE
  go_enter Tryz.func108, Tryz.ntmps108
  go_wp2
  go_loopw [8] (fun i W => ∃ j : Nat, j ≤ l.length ∧ i = .int .i64 (j : Int) ∧ Hid ((l.take j).all okNm = true ∧ Below w.heap.size w W)) (fun i _ => l.length - (intOf i).toNat)
  case atStart => exact ⟨0, Nat.zero_le _, rfl, Lib.hid ⟨by simp, Below.refl _ _⟩⟩
  case round =>
    obtain ⟨j, hj, rfl, HI⟩ := hrel
    by_cases hlt : j < l.length
    · have hlt1 : j + 1 ≤ l.length := hlt
      obtain ⟨b, of, rfl, hc, hcl⟩ := (H.out.below HI.out.2).get hlt
      have hone := badName2_any (HE.out.b HI.out.2) l[j] hcl
      have hst : ∀ r, okNm l[j] = r → (l.take (j + 1)).all okNm = r := fun r hr => by
        rw [List.take_succ_eq_append_getElem hlt, List.all_append, HI.out.1]; simp [hr]
      have hbd := badAt_hit hlt HI.out.1
      generalize l[j] = s at *
      have HC := Lib.hid hone
      have HB := Lib.hid HI.out.2
      cases hok : okNm s with
      | true =>
        have HN := Lib.hid (hst true hok)
        rw [hok] at HC
        clear hone hst hbd hok HI
        go_wp2_with (go_at_call 48; refine HC.out.mono ?_; rintro e W2 ⟨rfl, hb⟩; have HB2 := Lib.hid (below_trans HB.out hb); clear hb)
        go_roundw
        case rel => exact ⟨j + 1, hlt1, by go_num, Lib.hid ⟨HN.out, HB2.out⟩⟩
        case measure => simp [intOf]; omega
      | false =>
        have HN := Lib.hid (hbd hok)
        rw [hok] at HC
        clear hone hst hbd hok HI
        go_wp2_with (go_at_call 48; refine HC.out.mono ?_; rintro e W2 ⟨rfl, hb⟩; have HB2 := Lib.hid (below_trans HB.out hb); clear hb)
        go_ret
        exact ⟨by rw [HN.out]; rfl, HB2.out⟩
    · obtain rfl : j = l.length := by omega
      have hall := HI.out.1
      rw [List.take_length] at hall
      have HF := Lib.hid (And.intro (badAt_none hall) HI.out.2)
      clear HI hall
      go_wp2
      go_ret
      exact ⟨by rw [HF.out.1]; rfl, HF.out.2⟩
theorem hasBad2_any {w : World} (hE : Env w) {p : Option Addr} {c : Nat} {l : List (List UInt8)} (h : RdS w p c l) : Calls Tryz.prog 47 #[.slice p l.length c, .func (.func 48) #[] #[]] w fun e w' => e = .returned (.bool (!(l.all okNm))) ∧ Below w.heap.size w w' := by
  have HV := Lib.hid (badIdx2_any hE h)
  have HG := Lib.hid (badAt_ge l)
  generalize l.all okNm = r at *
  clear hE h
  go_enter Tryz.func47, Tryz.ntmps47
  go_wp2_with (go_at_call 108; refine HV.out.mono ?_; rintro e W1 ⟨rfl, hb⟩; have HB := Lib.hid hb; clear hb)
  go_ret
  refine ⟨?_, HB.out⟩
  rw [← HG.out]; rfl
end Go.Proofs.YtihfnegakcghiaaGreatDoor
namespace Go.Proofs.YtihfnegakcghiaaGreatDoor
open Go.RowKit
theorem exec_lenN {a : Act} {w : World} {o : Oper} {x : Operand} {b : Nat} {es : Array MapEntry} {clk : Nat} {n : Nat} (ho : o.op = .call { callee := .builtin .len, args := #[x], argTypes := #[68] }) (hx : a.eval x = .map (some b)) (hb : w.heap[b]? = some (.map es clk)) (hn : es.size = n) : (execOp a.eval o).run Tryz.prog w = .ok (.value (.int .i64 (n : Int))) w := by
  unfold execOp
  simp only [ho, resolve, invoke, builtin, Sem.run_bind, Sem.run_pure, Result.andThen_ok, List.map_toArray, List.map_cons, List.map_nil, hx]
  have hg : (getObj b).run Tryz.prog w = .ok (.map es clk) w := by simp [getObj, Sem.run, hb]
  simp [Builtin.len_, run_underlying Tryz.underlying68, hg, goInt, Result.andThen, hn]
theorem exec_lenR {a : Act} {w : World} {o : Oper} {x : Operand} {b : Nat} {es : Array MapEntry} {clk : Nat} {n : Nat} (ho : o.op = .call { callee := .builtin .len, args := #[x], argTypes := #[69] }) (hx : a.eval x = .map (some b)) (hb : w.heap[b]? = some (.map es clk)) (hn : es.size = n) : (execOp a.eval o).run Tryz.prog w = .ok (.value (.int .i64 (n : Int))) w := by
  unfold execOp
  simp only [ho, resolve, invoke, builtin, Sem.run_bind, Sem.run_pure, Result.andThen_ok, List.map_toArray, List.map_cons, List.map_nil, hx]
  have hg : (getObj b).run Tryz.prog w = .ok (.map es clk) w := by simp [getObj, Sem.run, hb]
  simp [Builtin.len_, run_underlying Tryz.underlying69, hg, goInt, Result.andThen, hn]
theorem add_ints {i j : Nat} (h : i + j ≤ 281474976710656) (W : World) : (binOp .add 3 (.int .i64 (i : Int)) (.int .i64 (j : Int))).run Tryz.prog W = .ok (.int .i64 ((i + j : Nat) : Int)) W := by
  have e : IntKind.i64.wrap ((i : Int) + (j : Int)) = ((i + j : Nat) : Int) := by rw [IntKind.wrap_i64]; omega
  simp [go_sem, e]
theorem geq_most {i : Nat} (W : World) : (binOp .geq 3 (.int .i64 (i : Int)) (.int .i64 65536)).run Tryz.prog W = .ok (.bool (decide (65536 ≤ i))) W := by
  have e : decide ((65536 : Int) ≤ (i : Int)) = decide (65536 ≤ i) := by rw [Bool.eq_iff_iff]; simp; omega
  simp [go_sem, e]
theorem geq_next {n : Int} (W : World) : (binOp .geq 2 (.int .i64 n) (.int .i64 4611686018427387904)).run Tryz.prog W = .ok (.bool (decide (4611686018427387904 ≤ n))) W := by
  simp [go_sem]
theorem full_any {S : Nat → Prop} {w : World} {B : GB} {ma : Int → Option Value} {s : GS} (h : GM S w B ma s) (hl : s.nodes.length + s.rels.length ≤ 1100000) (next : Int) : Calls Tryz.prog 50 #[.pointer (some ⟨B.gx, 0, none⟩), .int .i64 next] w fun e w' => e = .returned (.bool (fullD s.graph next)) ∧ Below w.heap.size w w' := by
  obtain ⟨e1, c1, hn, hn2⟩ := h.nodes.entries
  obtain ⟨e2, c2, hr, hr2⟩ := h.rels.entries
  have hadd := add_ints (i := s.nodes.length) (j := s.rels.length) (by omega)
  have hge := geq_most (i := s.nodes.length + s.rels.length)
  have hgn := geq_next (n := next)
  have hF : fullD s.graph next = (decide (65536 ≤ s.nodes.length + s.rels.length) || decide (4611686018427387904 ≤ next)) := rfl
  have hS0 : w.heap[B.gx]? = some (.cells (gBoxV B s) 72 (0, 0)) ∧ w.heap[B.bn]? = some (.map e1 c1) ∧ w.heap[B.br]? = some (.map e2 c2) := ⟨h.box, hn, hr⟩
  have HX := Lib.hid (And.intro hadd (And.intro hge (And.intro hgn (And.intro hn2 (And.intro hr2 hS0)))))
  have HF := Lib.hid hF
  clear h hn hr hadd hge hgn hn2 hr2 hS0 hF
  go_enter Tryz.func50, Tryz.ntmps50
  go_wp2
  obtain ⟨hadd, hge, hgn, hn2, hr2, hS0⟩ := HX.out
  cases hc : decide (65536 ≤ s.nodes.length + s.rels.length) with
  | true =>
    rw [hc] at hge
    refine plain_region_draws (fun W => W.heap[B.gx]? = some (.cells (gBoxV B s) 72 (0, 0)) ∧ W.heap[B.bn]? = some (.map e1 c1) ∧ W.heap[B.br]? = some (.map e2 c2)) (by kernel_rfl) hS0 (fun hS => ?_)
    refine tk 0 5 (v := .pointer (some ⟨B.gx, 0, none⟩)) rfl rfl (fun W hW => exec_move rfl rfl) ?_
    simp only [Act.put, sA, sZ, sS]
    refine tk 1 6 (v := .pointer (some ⟨B.gx, 0, none⟩)) rfl rfl (fun W hW => rfl) ?_
    simp only [Act.put, sA, sZ, sS]
    refine tk 2 7 (v := .pointer (some ⟨B.gx, 0, none⟩)) rfl rfl (fun W hW => exec_fieldAddr rfl rfl (fa_graph 0 (by omega) _ W)) ?_
    simp only [Act.put, sA, sZ, sS]
    refine tk 3 8 (v := .map (some B.bn)) rfl rfl (fun W hW => exec_load rfl rfl (run_load1 (w := W) Tryz.underlying68 rfl (cellOf (o := 0) hW.1 rfl))) ?_
    simp only [Act.put, sA, sZ, sS]
    refine tk 4 9 (v := .int .i64 (s.nodes.length : Int)) rfl rfl (fun W hW => exec_lenN rfl rfl hW.2.1 hn2) ?_
    simp only [Act.put, sA, sZ, sS]
    refine tk 5 10 (v := .pointer (some ⟨B.gx, 0, none⟩)) rfl rfl (fun W hW => exec_move rfl rfl) ?_
    simp only [Act.put, sA, sZ, sS]
    refine tk 6 11 (v := .pointer (some ⟨B.gx, 0, none⟩)) rfl rfl (fun W hW => rfl) ?_
    simp only [Act.put, sA, sZ, sS]
    refine tk 7 12 (v := .pointer (some ⟨B.gx, 1, none⟩)) rfl rfl (fun W hW => exec_fieldAddr rfl rfl (fa_graph 1 (by omega) _ W)) ?_
    simp only [Act.put, sA, sZ, sS]
    refine tk 8 13 (v := .map (some B.br)) rfl rfl (fun W hW => exec_load rfl rfl (run_load1 (w := W) Tryz.underlying69 rfl (cellOf (o := 1) hW.1 rfl))) ?_
    simp only [Act.put, sA, sZ, sS]
    refine tk 9 14 (v := .int .i64 (s.rels.length : Int)) rfl rfl (fun W hW => exec_lenR rfl rfl hW.2.2 hr2) ?_
    simp only [Act.put, sA, sZ, sS]
    refine tk 10 15 (v := .int .i64 ((s.nodes.length + s.rels.length : Nat) : Int)) rfl rfl (fun W hW => exec_bini rfl rfl rfl (hadd W)) ?_
    simp only [Act.put, sA, sZ, sS]
    refine tk 11 16 (v := .bool true) rfl rfl (fun W hW => exec_bini rfl rfl rfl (hge W)) ?_
    simp only [Act.put, sA, sZ, sS]
    refine tk 12 17 (v := .bool true) rfl rfl (fun W hW => exec_move rfl rfl) ?_
    simp only [Act.put, sA, sZ, sS]
    refine tn 13 18 rfl rfl ?_
    simp only [Act.put, sA, sZ, sS]
    refine tn 14 19 rfl rfl ?_
    simp only [Act.put, sA, sZ, sS]
    refine tk 15 20 (v := .bool true) rfl rfl (fun W hW => rfl) ?_
    simp only [Act.put, sA, sZ, sS]
    refine tk 16 4 (v := .bool true) rfl rfl (fun W hW => exec_assign rfl rfl) ?_
    simp only [Act.put, sA, sZ, sS]
    refine done (by kernel_rfl) ?_ _
    clear hadd hge hgn hn2 hr2 hS0 hS HX
    go_wp2
    go_ret
    exact ⟨by rw [HF.out, hc]; rfl, (Below.refl _ w).drew⟩
  | false =>
    rw [hc] at hge
    refine plain_region_draws (fun W => W.heap[B.gx]? = some (.cells (gBoxV B s) 72 (0, 0)) ∧ W.heap[B.bn]? = some (.map e1 c1) ∧ W.heap[B.br]? = some (.map e2 c2)) (by kernel_rfl) hS0 (fun hS => ?_)
    refine tk 0 5 (v := .pointer (some ⟨B.gx, 0, none⟩)) rfl rfl (fun W hW => exec_move rfl rfl) ?_
    simp only [Act.put, sA, sZ, sS]
    refine tk 1 6 (v := .pointer (some ⟨B.gx, 0, none⟩)) rfl rfl (fun W hW => rfl) ?_
    simp only [Act.put, sA, sZ, sS]
    refine tk 2 7 (v := .pointer (some ⟨B.gx, 0, none⟩)) rfl rfl (fun W hW => exec_fieldAddr rfl rfl (fa_graph 0 (by omega) _ W)) ?_
    simp only [Act.put, sA, sZ, sS]
    refine tk 3 8 (v := .map (some B.bn)) rfl rfl (fun W hW => exec_load rfl rfl (run_load1 (w := W) Tryz.underlying68 rfl (cellOf (o := 0) hW.1 rfl))) ?_
    simp only [Act.put, sA, sZ, sS]
    refine tk 4 9 (v := .int .i64 (s.nodes.length : Int)) rfl rfl (fun W hW => exec_lenN rfl rfl hW.2.1 hn2) ?_
    simp only [Act.put, sA, sZ, sS]
    refine tk 5 10 (v := .pointer (some ⟨B.gx, 0, none⟩)) rfl rfl (fun W hW => exec_move rfl rfl) ?_
    simp only [Act.put, sA, sZ, sS]
    refine tk 6 11 (v := .pointer (some ⟨B.gx, 0, none⟩)) rfl rfl (fun W hW => rfl) ?_
    simp only [Act.put, sA, sZ, sS]
    refine tk 7 12 (v := .pointer (some ⟨B.gx, 1, none⟩)) rfl rfl (fun W hW => exec_fieldAddr rfl rfl (fa_graph 1 (by omega) _ W)) ?_
    simp only [Act.put, sA, sZ, sS]
    refine tk 8 13 (v := .map (some B.br)) rfl rfl (fun W hW => exec_load rfl rfl (run_load1 (w := W) Tryz.underlying69 rfl (cellOf (o := 1) hW.1 rfl))) ?_
    simp only [Act.put, sA, sZ, sS]
    refine tk 9 14 (v := .int .i64 (s.rels.length : Int)) rfl rfl (fun W hW => exec_lenR rfl rfl hW.2.2 hr2) ?_
    simp only [Act.put, sA, sZ, sS]
    refine tk 10 15 (v := .int .i64 ((s.nodes.length + s.rels.length : Nat) : Int)) rfl rfl (fun W hW => exec_bini rfl rfl rfl (hadd W)) ?_
    simp only [Act.put, sA, sZ, sS]
    refine tk 11 16 (v := .bool false) rfl rfl (fun W hW => exec_bini rfl rfl rfl (hge W)) ?_
    simp only [Act.put, sA, sZ, sS]
    refine tk 12 17 (v := .bool false) rfl rfl (fun W hW => exec_move rfl rfl) ?_
    simp only [Act.put, sA, sZ, sS]
    refine tk 13 18 (v := .int .i64 next) rfl rfl (fun W hW => exec_move rfl rfl) ?_
    simp only [Act.put, sA, sZ, sS]
    refine tk 14 19 (v := .bool (decide (4611686018427387904 ≤ next))) rfl rfl (fun W hW => exec_bini rfl rfl rfl (hgn W)) ?_
    simp only [Act.put, sA, sZ, sS]
    refine tk 15 20 (v := .bool (decide (4611686018427387904 ≤ next))) rfl rfl (fun W hW => rfl) ?_
    simp only [Act.put, sA, sZ, sS]
    refine tk 16 4 (v := .bool (decide (4611686018427387904 ≤ next))) rfl rfl (fun W hW => exec_assign rfl rfl) ?_
    simp only [Act.put, sA, sZ, sS]
    refine done (by kernel_rfl) ?_ _
    clear hadd hge hgn hn2 hr2 hS0 hS HX
    go_wp2
    go_ret
    exact ⟨by rw [HF.out, hc]; rfl, (Below.refl _ w).drew⟩
theorem there_any {w : World} {B : GB} {s : GS} (h : w.heap[B.gx]? = some (.cells (gBoxV B s) 72 (0, 0))) : Calls Tryz.prog 27 #[.pointer (some ⟨B.gx, 0, none⟩)] w fun e w' => e = .returned (.bool true) ∧ w' = w := by
  have HN := Lib.hid (none_no h)
  clear h
  go_enter Tryz.func27, Tryz.ntmps27
  go_wp2_with (go_at_call 42; refine HN.out.mono ?_; rintro e w1 ⟨rfl, rfl⟩)
  go_ret
  exact ⟨rfl, rfl⟩
theorem all_texts (l : List (List UInt8)) : (insAllB id l []).all okNm = l.all okNm := by
  rw [Bool.eq_iff_iff, List.all_eq_true, List.all_eq_true]
  have h := mem_texts l List.Pairwise.nil
  exact ⟨fun g x hx => g x ((h x).2 (.inl hx)), fun g x hx => g x (by simpa using (h x).1 hx)⟩
def GDone (S : Nat → Prop) (w w' : World) (B : GB) (ma : Int → Option Value) (s : GS) : Prop := GM S w' B ma s ∧ Touch S w w'
theorem GDone.below {S : Nat → Prop} {w w' : World} {B : GB} {ma : Int → Option Value} {s : GS} (h : GM S w B ma s) (g : Below w.heap.size w w') : GDone S w w' B ma s := ⟨h.below g, touch_of_below g⟩
theorem GDone.then {S : Nat → Prop} {w w1 w2 : World} {B : GB} {ma : Int → Option Value} {s : GS} (h : GDone S w w1 B ma s) (g : Below w1.heap.size w1 w2) : GDone S w w2 B ma s := ⟨h.1.below g, h.2.grow g⟩
theorem addNode_any {S : Nat → Prop} {w : World} {B : GB} {ma : Int → Option Value} {s : GS} (hE : Env w) (h : GM S w B ma s) (hS : ∀ b, w.heap.size ≤ b → S b) (hok : okG s.graph = true) {pl : Option Addr} {cl : Nat} {labels : List (List UInt8)} (hl : RdS w pl cl labels) (hl1 : labels.length ≤ 1100000) {pp : Option Addr} {cp : Nat} {props : List PropD} (hp : GRd PRd 7 w pp cp props) (hp1 : PsOk props) :
    Calls Tryz.prog 15 #[.pointer (some ⟨B.gx, 0, none⟩), .slice pl labels.length cl, .slice pp props.length cp] w fun e w' => e = .returned (.tuple #[.int .i64 (addNodeD s.graph labels props).2.1, .int .i64 (addNodeD s.graph labels props).2.2]) ∧ GDone S w w' B ma (sOf (addNodeD s.graph labels props).1 s.adj) := by
  obtain ⟨⟨k1, k2, k3, k4, k5⟩, k6, k7, k8, k9⟩ := (okG_iff _).1 hok
  have hsz : s.nodes.length + s.rels.length ≤ 1100000 := Nat.le_trans k1 (by decide)
  have hn0 : 0 ≤ s.nn := k2
  have hn1 : s.nn ≤ 4611686018427387904 := k3
  have hlast : ∀ n : NodeD, n.id = s.nn → putBy NodeD.id n s.nodes = s.nodes ++ [n] := fun n e => putBy_end NodeD.id fun a ha => by rw [e]; exact (k6 a ha).2
  have HST := Lib.hid (stored_any hE hp hp1)
  have HNO := Lib.hid (none_no h.box)
  have HCL := Lib.hid (fun W (g : Below w.heap.size w W) => clone_any (hl.below g) hl1)
  have hstr : ∀ x ∈ labels, x.length ≤ 140737488355328 := hl.2.2.2.1
  have HX := Lib.hid (And.intro hE (And.intro h (And.intro hS (And.intro hsz (And.intro hlast (And.intro hl1 hstr))))))
  have hD : addNodeD s.graph labels props = if labels.all okNm = false ∨ mayStore props = false then (s.graph, 0, 2) else if fullD s.graph s.nn = true then (s.graph, 0, 151) else (⟨s.nodes ++ [⟨s.nn, insAllB id labels [], storeD props⟩], s.rels, s.nn + 1, s.nr⟩, s.nn, 0) := rfl
  have HD := Lib.hid hD
  clear hok k1 k2 k3 k4 k5 k6 k7 k8 k9 hl hp hp1 hE h hS hsz hlast hD hl1 hstr
  cases hms : mayStore props with
  | false =>
    have hr : addNodeD s.graph labels props = (s.graph, 0, 2) := by rw [HD.out, if_pos (.inr hms)]
    rw [hr]
    have HMS := Lib.hid hms
    clear hms hr HD
    go_enter Tryz.func15, Tryz.ntmps15
    go_wp2_with (first
      | (go_at_call 42; refine HNO.out.mono ?_; rintro e w0 ⟨rfl, hw0⟩; have hw0 := hw0.symm; subst hw0)
      | (go_at_call 43
         (
          refine HST.out.mono ?_
          rintro e w1 ⟨hb, h1, _⟩
          obtain rfl := h1 HMS.out
          have HB1 := Lib.hid hb
          clear hb h1))
      | (go_at_call 44
         (
          refine (HCL.out _ HB1.out).mono ?_
          rintro e w2 ⟨v, rfl, ho, hb⟩
          obtain ⟨pv, cv, rfl⟩ := slices_of ho
          have HO2 := Lib.hid ho
          have HB2 := Lib.hid hb
          clear ho hb))
      | (go_at_call 45
         (
          refine (sortS_any HO2.out HX.out.2.2.2.2.2.1).mono ?_
          rintro e w3 ⟨rfl, l3, hp3, hs3, ho3, hT3⟩
          have hb3 : Below w1.heap.size w1 w3 := hT3.below HB2.out (fun b hb e => by have := HO2.out.2 b e; omega) HB2.out.size
          have hl3 : l3.length ≤ 1100000 := by rw [hp3.length_eq]; exact HX.out.2.2.2.2.2.1
          have HO3 := Lib.hid (And.intro ho3 (And.intro hl3 hb3))
          clear hp3 hs3 ho3 hT3 hb3 hl3))
      | (go_at_call 46
         (
          refine (compactS_any HO3.out.1 HO3.out.2.1).mono ?_
          rintro e w4 ⟨v4, rfl, ho4, hT4⟩
          have hb4 : Below w1.heap.size w1 w4 := hT4.below HO3.out.2.2 (fun b hb e => by have := HO3.out.1.2 b e; omega) HO3.out.2.2.size
          have HB4 := Lib.hid (below_trans HB1.out hb4)
          clear ho4 hT4 hb4)))
    go_ret2
    exact ⟨rfl, GDone.below HX.out.2.1 HB4.out⟩
  | true =>
    have HMS := Lib.hid hms
    cases hall : labels.all okNm with
    | false =>
      have hr : addNodeD s.graph labels props = (s.graph, 0, 2) := by rw [HD.out, if_pos (.inl hall)]
      rw [hr]
      have HALL := Lib.hid (show (insAllB id labels []).all okNm = false by rw [all_texts]; exact hall)
      clear hms hall hr HD
      go_enter Tryz.func15, Tryz.ntmps15
      go_wp2_with (first
        | (go_at_call 42; refine HNO.out.mono ?_; rintro e w0 ⟨rfl, hw0⟩; have hw0 := hw0.symm; subst hw0)
        | (go_at_call 43
           (
            refine HST.out.mono ?_
            rintro e w1 ⟨hb, _, h1⟩
            obtain ⟨v1, rfl, ho1⟩ := h1 HMS.out
            obtain ⟨pv1, cv1, rfl⟩ := ho1.slice
            have HO1 := Lib.hid ho1
            have HB1 := Lib.hid hb
            clear hb h1 ho1))
        | (go_at_call 44
           (
            refine (HCL.out _ HB1.out).mono ?_
            rintro e w2 ⟨v, rfl, ho, hb⟩
            obtain ⟨pv, cv, rfl⟩ := slices_of ho
            have HO2 := Lib.hid ho
            have HB2 := Lib.hid hb
            clear ho hb))
        | (go_at_call 45
           (
            refine (sortS_any HO2.out HX.out.2.2.2.2.2.1).mono ?_
            rintro e w3 ⟨rfl, l3, hp3, hs3, ho3, hT3⟩
            have hb3 : Below w1.heap.size w1 w3 := hT3.below HB2.out (fun b hb e => by have := HO2.out.2 b e; omega) HB2.out.size
            have hl3 : l3.length ≤ 1100000 := by rw [hp3.length_eq]; exact HX.out.2.2.2.2.2.1
            have hcp := compact_texts hp3 hs3
            have HO3 := Lib.hid (And.intro ho3 (And.intro hl3 (And.intro hb3 hcp)))
            clear hp3 hs3 ho3 hT3 hb3 hl3 hcp))
        | (go_at_call 46
           (
            have hcc := compactS_any HO3.out.1 HO3.out.2.1
            rw [HO3.out.2.2.2] at hcc
            refine hcc.mono ?_
            rintro e w4 ⟨v4, rfl, ho4, hT4⟩
            have hb4 : Below w1.heap.size w1 w4 := hT4.below HO3.out.2.2.1 (fun b hb e => by have := HO3.out.1.2 b e; omega) HO3.out.2.2.1.size
            have hlen4 := compact_len l3
            rw [HO3.out.2.2.2] at hlen4
            obtain ⟨p4, c4, rfl, hrd4⟩ := owned_rdS ho4 (by have := HO3.out.2.1; omega) (fun x hx => HX.out.2.2.2.2.2.2 x (by simpa using (mem_texts labels List.Pairwise.nil x).1 hx))
            have HN4 := Lib.hid (And.intro ((ho4.imp (P' := fun b => w.heap.size ≤ b) fun b _ hb => by have := HB1.out.size; omega)) (HO1.out.below el_prop hb4))
            have HR4 := Lib.hid hrd4
            have HB4 := Lib.hid (below_trans HB1.out hb4)
            clear ho4 hT4 hb4 hlen4 hrd4 hcc))
        | (go_at_call 47
           (
            have hcb := hasBad2_any (HX.out.1.b HB4.out) HR4.out
            rw [HALL.out] at hcb
            refine hcb.mono ?_
            rintro e w5 ⟨rfl, hb⟩
            have HB5 := Lib.hid (below_trans HB4.out hb)
            clear hb hcb)))
      go_ret2
      exact ⟨rfl, GDone.below HX.out.2.1 HB5.out⟩
    | true =>
      have HALL := Lib.hid (show (insAllB id labels []).all okNm = true by rw [all_texts]; exact hall)
      have hr0 : ¬ (labels.all okNm = false ∨ mayStore props = false) := by rw [hall, hms]; simp
      cases hfl : fullD s.graph s.nn with
      | true =>
        have hr : addNodeD s.graph labels props = (s.graph, 0, 151) := by rw [HD.out, if_neg hr0, if_pos hfl]
        rw [hr]
        have HFL := Lib.hid hfl
        clear hms hall hr HD hr0 hfl
        go_enter Tryz.func15, Tryz.ntmps15
        go_wp2_with (first
          | (go_at_call 42; refine HNO.out.mono ?_; rintro e w0 ⟨rfl, hw0⟩; have hw0 := hw0.symm; subst hw0)
          | (go_at_call 43
             (
              refine HST.out.mono ?_
              rintro e w1 ⟨hb, _, h1⟩
              obtain ⟨v1, rfl, ho1⟩ := h1 HMS.out
              obtain ⟨pv1, cv1, rfl⟩ := ho1.slice
              have HO1 := Lib.hid ho1
              have HB1 := Lib.hid hb
              clear hb h1 ho1))
          | (go_at_call 44
             (
              refine (HCL.out _ HB1.out).mono ?_
              rintro e w2 ⟨v, rfl, ho, hb⟩
              obtain ⟨pv, cv, rfl⟩ := slices_of ho
              have HO2 := Lib.hid ho
              have HB2 := Lib.hid hb
              clear ho hb))
          | (go_at_call 45
             (
              refine (sortS_any HO2.out HX.out.2.2.2.2.2.1).mono ?_
              rintro e w3 ⟨rfl, l3, hp3, hs3, ho3, hT3⟩
              have hb3 : Below w1.heap.size w1 w3 := hT3.below HB2.out (fun b hb e => by have := HO2.out.2 b e; omega) HB2.out.size
              have hl3 : l3.length ≤ 1100000 := by rw [hp3.length_eq]; exact HX.out.2.2.2.2.2.1
              have hcp := compact_texts hp3 hs3
              have HO3 := Lib.hid (And.intro ho3 (And.intro hl3 (And.intro hb3 hcp)))
              clear hp3 hs3 ho3 hT3 hb3 hl3 hcp))
          | (go_at_call 46
             (
              have hcc := compactS_any HO3.out.1 HO3.out.2.1
              rw [HO3.out.2.2.2] at hcc
              refine hcc.mono ?_
              rintro e w4 ⟨v4, rfl, ho4, hT4⟩
              have hb4 : Below w1.heap.size w1 w4 := hT4.below HO3.out.2.2.1 (fun b hb e => by have := HO3.out.1.2 b e; omega) HO3.out.2.2.1.size
              have hlen4 := compact_len l3
              rw [HO3.out.2.2.2] at hlen4
              obtain ⟨p4, c4, rfl, hrd4⟩ := owned_rdS ho4 (by have := HO3.out.2.1; omega) (fun x hx => HX.out.2.2.2.2.2.2 x (by simpa using (mem_texts labels List.Pairwise.nil x).1 hx))
              have HN4 := Lib.hid (And.intro ((ho4.imp (P' := fun b => w.heap.size ≤ b) fun b _ hb => by have := HB1.out.size; omega)) (HO1.out.below el_prop hb4))
              have HR4 := Lib.hid hrd4
              have HB4 := Lib.hid (below_trans HB1.out hb4)
              clear ho4 hT4 hb4 hlen4 hrd4 hcc))
          | (go_at_call 47
             (
              have hcb := hasBad2_any (HX.out.1.b HB4.out) HR4.out
              rw [HALL.out] at hcb
              refine hcb.mono ?_
              rintro e w5 ⟨rfl, hb⟩
              have HB5 := Lib.hid (below_trans HB4.out hb)
              have p3 : w5.cell? ⟨B.gx, 3, none⟩ = some (.int .i64 s.nn) := cellOf (o := 3) (HX.out.2.1.below HB5.out).box rfl
              clear hb hcb))
          | (go_at_call 50
             (
              have hfu := full_any (HX.out.2.1.below HB5.out) HX.out.2.2.2.1 s.nn
              rw [HFL.out] at hfu
              refine hfu.mono ?_
              rintro e w6 ⟨rfl, hb⟩
              have HB6 := Lib.hid (below_trans HB5.out hb)
              clear hb hfu)))
        go_ret2
        exact ⟨rfl, GDone.below HX.out.2.1 HB6.out⟩
      | false =>
        have hr : addNodeD s.graph labels props = (⟨s.nodes ++ [⟨s.nn, insAllB id labels [], storeD props⟩], s.rels, s.nn + 1, s.nr⟩, s.nn, 0) := by rw [HD.out, if_neg hr0, hfl, if_neg (by simp)]
        rw [hr]
        have HFL := Lib.hid hfl
        have hnl : s.nn < 4611686018427387904 := by
          unfold fullD at hfl
          simp only [Bool.or_eq_false_iff, decide_eq_false_iff_not] at hfl
          omega
        have hw1 : IntKind.i64.wrap (s.nn + 1) = s.nn + 1 := by rw [IntKind.wrap_i64]; omega
        have HNN := Lib.hid (show i64R s.nn by unfold i64R; omega)
        clear hms hall hr HD hr0 hfl hnl hn0 hn1
        go_enter Tryz.func15, Tryz.ntmps15
        go_wp2_with (first
          | (go_at_call 42; refine HNO.out.mono ?_; rintro e w0 ⟨rfl, hw0⟩; have hw0 := hw0.symm; subst hw0)
          | (go_at_call 43
             (
              refine HST.out.mono ?_
              rintro e w1 ⟨hb, _, h1⟩
              obtain ⟨v1, rfl, ho1⟩ := h1 HMS.out
              obtain ⟨pv1, cv1, rfl⟩ := ho1.slice
              have HO1 := Lib.hid ho1
              have HB1 := Lib.hid hb
              clear hb h1 ho1))
          | (go_at_call 44
             (
              refine (HCL.out _ HB1.out).mono ?_
              rintro e w2 ⟨v, rfl, ho, hb⟩
              obtain ⟨pv, cv, rfl⟩ := slices_of ho
              have HO2 := Lib.hid ho
              have HB2 := Lib.hid hb
              clear ho hb))
          | (go_at_call 45
             (
              refine (sortS_any HO2.out HX.out.2.2.2.2.2.1).mono ?_
              rintro e w3 ⟨rfl, l3, hp3, hs3, ho3, hT3⟩
              have hb3 : Below w1.heap.size w1 w3 := hT3.below HB2.out (fun b hb e => by have := HO2.out.2 b e; omega) HB2.out.size
              have hl3 : l3.length ≤ 1100000 := by rw [hp3.length_eq]; exact HX.out.2.2.2.2.2.1
              have hcp := compact_texts hp3 hs3
              have HO3 := Lib.hid (And.intro ho3 (And.intro hl3 (And.intro hb3 hcp)))
              clear hp3 hs3 ho3 hT3 hb3 hl3 hcp))
          | (go_at_call 46
             (
              have hcc := compactS_any HO3.out.1 HO3.out.2.1
              rw [HO3.out.2.2.2] at hcc
              refine hcc.mono ?_
              rintro e w4 ⟨v4, rfl, ho4, hT4⟩
              have hb4 : Below w1.heap.size w1 w4 := hT4.below HO3.out.2.2.1 (fun b hb e => by have := HO3.out.1.2 b e; omega) HO3.out.2.2.1.size
              have hlen4 := compact_len l3
              rw [HO3.out.2.2.2] at hlen4
              obtain ⟨p4, c4, rfl, hrd4⟩ := owned_rdS ho4 (by have := HO3.out.2.1; omega) (fun x hx => HX.out.2.2.2.2.2.2 x (by simpa using (mem_texts labels List.Pairwise.nil x).1 hx))
              have HN4 := Lib.hid (And.intro ((ho4.imp (P' := fun b => w.heap.size ≤ b) fun b _ hb => by have := HB1.out.size; omega)) (HO1.out.below el_prop hb4))
              have HR4 := Lib.hid hrd4
              have HB4 := Lib.hid (below_trans HB1.out hb4)
              clear ho4 hT4 hb4 hlen4 hrd4 hcc))
          | (go_at_call 47
             (
              have hcb := hasBad2_any (HX.out.1.b HB4.out) HR4.out
              rw [HALL.out] at hcb
              refine hcb.mono ?_
              rintro e w5 ⟨rfl, hb⟩
              have HB5 := Lib.hid (below_trans HB4.out hb)
              have HB45 := Lib.hid hb
              have p3 : w5.cell? ⟨B.gx, 3, none⟩ = some (.int .i64 s.nn) := cellOf (o := 3) (HX.out.2.1.below HB5.out).box rfl
              clear hb hcb))
          | (go_at_call 50
             (
              have hfu := full_any (HX.out.2.1.below HB5.out) HX.out.2.2.2.1 s.nn
              rw [HFL.out] at hfu
              refine hfu.mono ?_
              rintro e w6 ⟨rfl, hb⟩
              have hb6 := below_trans HB5.out hb
              have hg6 := HX.out.2.1.below hb6
              have p36 : w6.cell? ⟨B.gx, 3, none⟩ = some (.int .i64 s.nn) := cellOf (o := 3) hg6.box rfl
              have p06 : w6.cell? ⟨B.gx, 0, none⟩ = some (.map (some B.bn)) := cellOf (o := 0) hg6.box rfl
              have hb46 := below_trans HB45.out hb
              have hx : NOwn w6 (fun b => w.heap.size ≤ b) ⟨s.nn, insAllB id labels [], storeD props⟩ #[.int .i64 s.nn, .slice p4 (insAllB id labels []).length c4, .slice pv1 (storeD props).length cv1] := ⟨_, _, rfl, (HN4.out.1.keep fun b _ hb => hb46.block b hb).imp fun b _ hb => hb, HN4.out.2.below el_prop hb46⟩
              obtain ⟨w7, r1, r2, r3, r4⟩ := HX.out.2.1.putNode HX.out.2.2.1 hb6 hx HNN.out
              obtain ⟨w8, q1, q2, q3, q4⟩ := r2.setNN (s.nn + 1)
              have p37 : w7.cell? ⟨B.gx, 3, none⟩ = some (.int .i64 s.nn) := cellOf (o := 3) r2.box rfl
              have HU := Lib.hid r1
              have HST2 := Lib.hid q1
              have HF := Lib.hid (And.intro q2 (Touch.pre hb6 ((r3.mono (S' := S) fun b _ e => by rw [e]; exact HX.out.2.1.own.2.1).step (q3.mono (S' := S) fun b _ e => by rw [e]; exact HX.out.2.1.own.1) fun b _ hs => hs)))
              clear hb hfu hb6 hg6 hb46 hx r1 r2 r3 r4 q1 q2 q3 q4))
          | ((with_reducible apply op_mapUpdate); exact HU.out; exact rfl; exact rfl; exact rfl; clear HU)
          | ((with_reducible apply op_store); exact HST2.out; exact rfl; exact rfl; clear HST2))
        go_ret2
        refine ⟨rfl, ?_, HF.out.2⟩
        have := HF.out.1
        rw [HX.out.2.2.2.2.1 _ rfl] at this
        exact this
end Go.Proofs.YtihfnegakcghiaaGreatDoor
namespace Go.Proofs.YtihfnegakcghiaaGreatDoor
open Go.RowKit
def nodeZ : Array Value := #[.int .i64 0, .slice none 0 0, .slice none 0 0]
theorem GM.look {S : Nat → Prop} {W : World} {B : GB} {ma : Int → Option Value} {s : GS} (h : GM S W B ma s) (k : Int) :
    ∃ x, x.size = 3 ∧ (∀ u ∈ x.toList, u.oneCell' = true) ∧ (∀ W' : World, W'.heap[B.bn]? = W.heap[B.bn]? → (Instr.lookup 68 (.map (some B.bn)) (.int .i64 k) true).run Tryz.prog W' = .ok (.tuple #[.agg x, .bool (hasN s.graph k)]) W') ∧ (∀ a ∈ s.nodes, a.id = k → NOwn W (fun b => S b ∧ ¬ GSp B ma b) a x) ∧ (hasN s.graph k = false → x = nodeZ) := by
  obtain ⟨x, h1, h2, h3⟩ := h.nodes.get2 (P := Tryz.prog) Tryz.underlying68 Tryz.underlying2 (z := nodeZ) (fun w => Tryz.zeroValue45 w) k
  have hh : hasN s.graph k = s.nodes.any fun a => a.id == k := rfl
  rw [← hh] at h1 h3
  refine ⟨x, ?_, ?_, h1, h2, h3⟩
  · cases hf : hasN s.graph k with
    | false => rw [h3 hf]; rfl
    | true =>
      rw [hh, List.any_eq_true] at hf
      obtain ⟨a, ha, e⟩ := hf
      exact el_node.size (h2 a ha (by simpa using e))
  · cases hf : hasN s.graph k with
    | false => rw [h3 hf]; simp [nodeZ, Value.oneCell']
    | true =>
      rw [hh, List.any_eq_true] at hf
      obtain ⟨a, ha, e⟩ := hf
      exact el_node.ones (h2 a ha (by simpa using e))
theorem addRel_any {S : Nat → Prop} {w : World} {B : GB} {g : GraphD} (hE : Env w) (hg : GG S w B g) (hS : ∀ b, w.heap.size ≤ b → S b) (hok : okG g = true) (src dst : Int) {type : List UInt8} (hty : type.length ≤ 140737488355328) {pp : Option Addr} {cp : Nat} {props : List PropD} (hp : GRd PRd 7 w pp cp props) (hp1 : PsOk props) :
    Calls Tryz.prog 37 #[.pointer (some ⟨B.gx, 0, none⟩), .int .i64 src, .int .i64 dst, .string (strB type), .slice pp props.length cp] w fun e w' => e = .returned (.tuple #[.int .i64 (addRelD g src dst type props).2.1, .int .i64 (addRelD g src dst type props).2.2]) ∧ GG S w' B (addRelD g src dst type props).1 ∧ Touch S w w' := by
  obtain ⟨ma, h⟩ := hg
  obtain ⟨⟨k1, k2, k3, k4, k5⟩, k6, k7, k8, k9⟩ := (okG_iff _).1 hok
  have hsz : (gsOf g).nodes.length + (gsOf g).rels.length ≤ 1100000 := Nat.le_trans k1 (by decide)
  have hlast : ∀ n : RelD, n.id = g.nextRel → putBy RelD.id n g.rels = g.rels ++ [n] := fun n e => putBy_end RelD.id fun a ha => by rw [e]; exact (k8 a ha).2.1
  have hadj : ∀ r : RelD, r.id = g.nextRel → (⟨g.nodes, g.rels ++ [r], linkK (linkK (touchD g.rels) r.src r.id) r.dst r.id, g.nextNode, g.nextRel⟩ : GS) = gsOf ⟨g.nodes, g.rels ++ [r], g.nextNode, g.nextRel⟩ := fun r e =>
    gsOf_eq (adj_link (s := gsOf g) (fun j => rfl) (rises_rise _ k9) (fun x hx => by rw [e]; exact (k8 x hx).2.1))
  have hfew : ∀ k, (touchD g.rels k).length + 3 ≤ 1100000 := fun k => by have := touchD_len g.rels k; omega
  have HST := Lib.hid (stored_any hE hp hp1)
  have HNO := Lib.hid (none_no h.box)
  obtain ⟨xa, hza, hoa, hlka, _, _⟩ := h.look src
  obtain ⟨xb, hzb, hob, hlkb, _, _⟩ := h.look dst
  have HX := Lib.hid (And.intro hE (And.intro h (And.intro hS (And.intro hsz (And.intro hlast (And.intro hadj hfew))))))
  have hgr : (gsOf g).graph = g := rfl
  rw [hgr] at hlka hlkb
  have HD := Lib.hid (show addRelD g src dst type props = if mayStore props = false ∨ okNm type = false then (g, 0, 2) else if hasN g src = false ∨ hasN g dst = false then (g, 0, 5) else if fullD g g.nextRel = true then (g, 0, 151) else (⟨g.nodes, g.rels ++ [⟨g.nextRel, src, dst, type, storeD props⟩], g.nextNode, g.nextRel + 1⟩, g.nextRel, 0) from rfl)
  have HG := Lib.hid (show GG S w B g from ⟨ma, h⟩)
  have HNR := Lib.hid (And.intro k4 k5)
  clear hok k1 k2 k3 k4 k5 k6 k7 k8 k9 hp hp1 hE h hS hsz hlast hadj hfew hgr
  cases hms : mayStore props with
  | false =>
    rw [HD.out, if_pos (.inl hms)]
    have HMS := Lib.hid hms
    clear hms HD hlka hlkb hza hoa hzb hob
    go_enter Tryz.func37, Tryz.ntmps37
    go_wp2_with (first
      | (go_at_call 42; refine HNO.out.mono ?_; rintro e w0 ⟨rfl, hw0⟩; have hw0 := hw0.symm; subst hw0)
      | (go_at_call 43
         (
          refine HST.out.mono ?_
          rintro e w1 ⟨hb, h1, _⟩
          obtain rfl := h1 HMS.out
          have HB1 := Lib.hid hb
          clear hb h1)))
    go_ret2
    exact ⟨rfl, HG.out.below HB1.out, touch_of_below HB1.out⟩
  | true =>
    have HMS := Lib.hid hms
    cases hnm : okNm type with
    | false =>
      rw [HD.out, if_pos (.inr hnm)]
      have HNM := Lib.hid hnm
      clear hms hnm HD hlka hlkb hza hoa hzb hob
      go_enter Tryz.func37, Tryz.ntmps37
      go_wp2_with (first
        | (go_at_call 42; refine HNO.out.mono ?_; rintro e w0 ⟨rfl, hw0⟩; have hw0 := hw0.symm; subst hw0)
        | (go_at_call 43
           (
            refine HST.out.mono ?_
            rintro e w1 ⟨hb, _, h1⟩
            obtain ⟨v1, rfl, ho1⟩ := h1 HMS.out
            obtain ⟨pv1, cv1, rfl⟩ := ho1.slice
            have HO1 := Lib.hid ho1
            have HB1 := Lib.hid hb
            clear hb h1 ho1))
        | (go_at_call 49
           (
            have hnm := wname_any (HX.out.1.b HB1.out) type hty
            rw [HNM.out] at hnm
            refine hnm.mono ?_
            rintro e w2 ⟨rfl, hb⟩
            have HB2 := Lib.hid (below_trans HB1.out hb)
            have HB12 := Lib.hid hb
            clear hb hnm)))
      go_ret2
      exact ⟨rfl, HG.out.below HB2.out, touch_of_below HB2.out⟩
    | true =>
      have HNM := Lib.hid hnm
      have hr0 : ¬ (mayStore props = false ∨ okNm type = false) := by rw [hms, hnm]; simp
      have HR0 := Lib.hid hr0
      clear hms hnm hr0
      cases hfa : hasN g src with
      | false =>
        rw [HD.out, if_neg HR0.out, if_pos (.inl hfa)]
        rw [hfa] at hlka
        generalize hasN g dst = fb at *
        clear HD hfa
        go_enter Tryz.func37, Tryz.ntmps37
        go_wp2_with (first
          | (go_at_call 42; refine HNO.out.mono ?_; rintro e w0 ⟨rfl, hw0⟩; have hw0 := hw0.symm; subst hw0)
          | (go_at_call 43
             (
              refine HST.out.mono ?_
              rintro e w1 ⟨hb, _, h1⟩
              obtain ⟨v1, rfl, ho1⟩ := h1 HMS.out
              obtain ⟨pv1, cv1, rfl⟩ := ho1.slice
              have HO1 := Lib.hid ho1
              have HB1 := Lib.hid hb
              clear hb h1 ho1))
          | (go_at_call 49
             (
              have hnm := wname_any (HX.out.1.b HB1.out) type hty
              rw [HNM.out] at hnm
              refine hnm.mono ?_
              rintro e w2 ⟨rfl, hb⟩
              have HB2 := Lib.hid (below_trans HB1.out hb)
              have HB12 := Lib.hid hb
              have hg2 := HX.out.2.1.below HB2.out
              have p02 : w2.cell? ⟨B.gx, 0, none⟩ = some (.map (some B.bn)) := cellOf (o := 0) hg2.box rfl
              have HLKA := Lib.hid (hlka w2 (HB2.out.block _ HX.out.2.1.lts.2.1))
              have HSTA := Lib.hid (StT.fresh (P := Tryz.prog) (W := w2) st_node hza hoa nodeZ rfl)
              have hn3 := below_new (w := w2) (.cells xa 45)
              have p03 : (w2.alloc (.cells xa 45)).cell? ⟨B.gx, 0, none⟩ = some (.map (some B.bn)) := cellOf (o := 0) (hg2.below hn3).box rfl
              have HLKB := Lib.hid (hlkb (w2.alloc (.cells xa 45)) ((hn3.block _ hg2.lts.2.1).trans (HB2.out.block _ HX.out.2.1.lts.2.1)))
              have hstb := StT.fresh (P := Tryz.prog) (W := w2.alloc (.cells xa 45)) st_node hzb hob nodeZ rfl
              simp only [World.size_alloc] at hstb
              have HSTB := Lib.hid hstb
              clear hstb
              have hb4 : Below w2.heap.size w2 ((w2.alloc (.cells xa 45)).alloc (.cells xb 45)) := below_trans hn3 (below_new _)
              have hg4 := hg2.below hb4
              have p44 : ((w2.alloc (.cells xa 45)).alloc (.cells xb 45)).cell? ⟨B.gx, 4, none⟩ = some (.int .i64 g.nextRel) := cellOf (o := 4) hg4.box rfl
              have HBw4 := Lib.hid (below_trans HB2.out hb4)
              have HB14 := Lib.hid (below_trans HB12.out hb4)
              clear hg2 hn3 hb4 hg4
              clear hb hnm))
          | ((with_reducible apply op_lookup); exact HLKA.out; exact rfl; exact rfl; clear HLKA)
          | ((with_reducible apply op_lookup); exact HLKB.out; exact rfl; exact rfl; clear HLKB)
          | ((with_reducible apply op_store); exact HSTA.out; exact rfl; exact rfl; clear HSTA)
          | ((with_reducible apply op_store); exact HSTB.out; exact rfl; exact rfl; clear HSTB))
        go_ret2
        exact ⟨rfl, HG.out.below HBw4.out, touch_of_below HBw4.out⟩
      | true =>
        cases hfb : hasN g dst with
        | false =>
          rw [HD.out, if_neg HR0.out, if_pos (.inr hfb)]
          rw [hfa] at hlka
          rw [hfb] at hlkb
          clear HD hfa hfb
          go_enter Tryz.func37, Tryz.ntmps37
          go_wp2_with (first
            | (go_at_call 42; refine HNO.out.mono ?_; rintro e w0 ⟨rfl, hw0⟩; have hw0 := hw0.symm; subst hw0)
            | (go_at_call 43
               (
                refine HST.out.mono ?_
                rintro e w1 ⟨hb, _, h1⟩
                obtain ⟨v1, rfl, ho1⟩ := h1 HMS.out
                obtain ⟨pv1, cv1, rfl⟩ := ho1.slice
                have HO1 := Lib.hid ho1
                have HB1 := Lib.hid hb
                clear hb h1 ho1))
            | (go_at_call 49
               (
                have hnm := wname_any (HX.out.1.b HB1.out) type hty
                rw [HNM.out] at hnm
                refine hnm.mono ?_
                rintro e w2 ⟨rfl, hb⟩
                have HB2 := Lib.hid (below_trans HB1.out hb)
                have HB12 := Lib.hid hb
                have hg2 := HX.out.2.1.below HB2.out
                have p02 : w2.cell? ⟨B.gx, 0, none⟩ = some (.map (some B.bn)) := cellOf (o := 0) hg2.box rfl
                have HLKA := Lib.hid (hlka w2 (HB2.out.block _ HX.out.2.1.lts.2.1))
                have HSTA := Lib.hid (StT.fresh (P := Tryz.prog) (W := w2) st_node hza hoa nodeZ rfl)
                have hn3 := below_new (w := w2) (.cells xa 45)
                have p03 : (w2.alloc (.cells xa 45)).cell? ⟨B.gx, 0, none⟩ = some (.map (some B.bn)) := cellOf (o := 0) (hg2.below hn3).box rfl
                have HLKB := Lib.hid (hlkb (w2.alloc (.cells xa 45)) ((hn3.block _ hg2.lts.2.1).trans (HB2.out.block _ HX.out.2.1.lts.2.1)))
                have hstb := StT.fresh (P := Tryz.prog) (W := w2.alloc (.cells xa 45)) st_node hzb hob nodeZ rfl
                simp only [World.size_alloc] at hstb
                have HSTB := Lib.hid hstb
                clear hstb
                have hb4 : Below w2.heap.size w2 ((w2.alloc (.cells xa 45)).alloc (.cells xb 45)) := below_trans hn3 (below_new _)
                have hg4 := hg2.below hb4
                have p44 : ((w2.alloc (.cells xa 45)).alloc (.cells xb 45)).cell? ⟨B.gx, 4, none⟩ = some (.int .i64 g.nextRel) := cellOf (o := 4) hg4.box rfl
                have HBw4 := Lib.hid (below_trans HB2.out hb4)
                have HB14 := Lib.hid (below_trans HB12.out hb4)
                clear hg2 hn3 hb4 hg4
                clear hb hnm))
            | ((with_reducible apply op_lookup); exact HLKA.out; exact rfl; exact rfl; clear HLKA)
            | ((with_reducible apply op_lookup); exact HLKB.out; exact rfl; exact rfl; clear HLKB)
            | ((with_reducible apply op_store); exact HSTA.out; exact rfl; exact rfl; clear HSTA)
            | ((with_reducible apply op_store); exact HSTB.out; exact rfl; exact rfl; clear HSTB))
          go_ret2
          exact ⟨rfl, HG.out.below HBw4.out, touch_of_below HBw4.out⟩
        | true =>
          have hr1 : ¬ (hasN g src = false ∨ hasN g dst = false) := by rw [hfa, hfb]; simp
          rw [hfa] at hlka
          rw [hfb] at hlkb
          rw [HD.out, if_neg HR0.out, if_neg hr1]
          clear HD hfa hfb hr1
          cases hfl : fullD g g.nextRel with
          | true =>
            rw [if_pos rfl]
            have HFL := Lib.hid hfl
            clear hfl
            go_enter Tryz.func37, Tryz.ntmps37
            go_wp2_with (first
              | (go_at_call 42; refine HNO.out.mono ?_; rintro e w0 ⟨rfl, hw0⟩; have hw0 := hw0.symm; subst hw0)
              | (go_at_call 43
                 (
                  refine HST.out.mono ?_
                  rintro e w1 ⟨hb, _, h1⟩
                  obtain ⟨v1, rfl, ho1⟩ := h1 HMS.out
                  obtain ⟨pv1, cv1, rfl⟩ := ho1.slice
                  have HO1 := Lib.hid ho1
                  have HB1 := Lib.hid hb
                  clear hb h1 ho1))
              | (go_at_call 49
                 (
                  have hnm := wname_any (HX.out.1.b HB1.out) type hty
                  rw [HNM.out] at hnm
                  refine hnm.mono ?_
                  rintro e w2 ⟨rfl, hb⟩
                  have HB2 := Lib.hid (below_trans HB1.out hb)
                  have HB12 := Lib.hid hb
                  have hg2 := HX.out.2.1.below HB2.out
                  have p02 : w2.cell? ⟨B.gx, 0, none⟩ = some (.map (some B.bn)) := cellOf (o := 0) hg2.box rfl
                  have HLKA := Lib.hid (hlka w2 (HB2.out.block _ HX.out.2.1.lts.2.1))
                  have HSTA := Lib.hid (StT.fresh (P := Tryz.prog) (W := w2) st_node hza hoa nodeZ rfl)
                  have hn3 := below_new (w := w2) (.cells xa 45)
                  have p03 : (w2.alloc (.cells xa 45)).cell? ⟨B.gx, 0, none⟩ = some (.map (some B.bn)) := cellOf (o := 0) (hg2.below hn3).box rfl
                  have HLKB := Lib.hid (hlkb (w2.alloc (.cells xa 45)) ((hn3.block _ hg2.lts.2.1).trans (HB2.out.block _ HX.out.2.1.lts.2.1)))
                  have hstb := StT.fresh (P := Tryz.prog) (W := w2.alloc (.cells xa 45)) st_node hzb hob nodeZ rfl
                  simp only [World.size_alloc] at hstb
                  have HSTB := Lib.hid hstb
                  clear hstb
                  have hb4 : Below w2.heap.size w2 ((w2.alloc (.cells xa 45)).alloc (.cells xb 45)) := below_trans hn3 (below_new _)
                  have hg4 := hg2.below hb4
                  have p44 : ((w2.alloc (.cells xa 45)).alloc (.cells xb 45)).cell? ⟨B.gx, 4, none⟩ = some (.int .i64 g.nextRel) := cellOf (o := 4) hg4.box rfl
                  have HBw4 := Lib.hid (below_trans HB2.out hb4)
                  have HB14 := Lib.hid (below_trans HB12.out hb4)
                  clear hg2 hn3 hb4 hg4
                  clear hb hnm))
              | ((with_reducible apply op_lookup); exact HLKA.out; exact rfl; exact rfl; clear HLKA)
              | ((with_reducible apply op_lookup); exact HLKB.out; exact rfl; exact rfl; clear HLKB)
              | ((with_reducible apply op_store); exact HSTA.out; exact rfl; exact rfl; clear HSTA)
              | ((with_reducible apply op_store); exact HSTB.out; exact rfl; exact rfl; clear HSTB)
              | (go_at_call 50
                 (
                  have hfu := full_any (HX.out.2.1.below HBw4.out) HX.out.2.2.2.1 g.nextRel
                  rw [show (gsOf g).graph = g from rfl, HFL.out] at hfu
                  refine hfu.mono ?_
                  rintro e w6 ⟨rfl, hb⟩
                  have HB6 := Lib.hid (below_trans HBw4.out hb)
                  clear hb hfu)))
            go_ret2
            exact ⟨rfl, HG.out.below HB6.out, touch_of_below HB6.out⟩
          | false =>
            rw [if_neg (by simp)]
            have HFL := Lib.hid hfl
            have hnl : g.nextRel < 4611686018427387904 := by
              unfold fullD at hfl
              simp only [Bool.or_eq_false_iff, decide_eq_false_iff_not] at hfl
              omega
            have hw1 : IntKind.i64.wrap (g.nextRel + 1) = g.nextRel + 1 := by rw [IntKind.wrap_i64]; have := HNR.out.1; omega
            have hir : i64R g.nextRel := by have := HNR.out.1; unfold i64R; omega
            have HIR := Lib.hid hir
            clear hfl hnl hir
            go_enter Tryz.func37, Tryz.ntmps37
            go_wp2_with (first
              | (go_at_call 42; refine HNO.out.mono ?_; rintro e w0 ⟨rfl, hw0⟩; have hw0 := hw0.symm; subst hw0)
              | (go_at_call 43
                 (
                  refine HST.out.mono ?_
                  rintro e w1 ⟨hb, _, h1⟩
                  obtain ⟨v1, rfl, ho1⟩ := h1 HMS.out
                  obtain ⟨pv1, cv1, rfl⟩ := ho1.slice
                  have HO1 := Lib.hid ho1
                  have HB1 := Lib.hid hb
                  clear hb h1 ho1))
              | (go_at_call 49
                 (
                  have hnm := wname_any (HX.out.1.b HB1.out) type hty
                  rw [HNM.out] at hnm
                  refine hnm.mono ?_
                  rintro e w2 ⟨rfl, hb⟩
                  have HB2 := Lib.hid (below_trans HB1.out hb)
                  have HB12 := Lib.hid hb
                  have hg2 := HX.out.2.1.below HB2.out
                  have p02 : w2.cell? ⟨B.gx, 0, none⟩ = some (.map (some B.bn)) := cellOf (o := 0) hg2.box rfl
                  have HLKA := Lib.hid (hlka w2 (HB2.out.block _ HX.out.2.1.lts.2.1))
                  have HSTA := Lib.hid (StT.fresh (P := Tryz.prog) (W := w2) st_node hza hoa nodeZ rfl)
                  have hn3 := below_new (w := w2) (.cells xa 45)
                  have p03 : (w2.alloc (.cells xa 45)).cell? ⟨B.gx, 0, none⟩ = some (.map (some B.bn)) := cellOf (o := 0) (hg2.below hn3).box rfl
                  have HLKB := Lib.hid (hlkb (w2.alloc (.cells xa 45)) ((hn3.block _ hg2.lts.2.1).trans (HB2.out.block _ HX.out.2.1.lts.2.1)))
                  have hstb := StT.fresh (P := Tryz.prog) (W := w2.alloc (.cells xa 45)) st_node hzb hob nodeZ rfl
                  simp only [World.size_alloc] at hstb
                  have HSTB := Lib.hid hstb
                  clear hstb
                  have hb4 : Below w2.heap.size w2 ((w2.alloc (.cells xa 45)).alloc (.cells xb 45)) := below_trans hn3 (below_new _)
                  have hg4 := hg2.below hb4
                  have p44 : ((w2.alloc (.cells xa 45)).alloc (.cells xb 45)).cell? ⟨B.gx, 4, none⟩ = some (.int .i64 g.nextRel) := cellOf (o := 4) hg4.box rfl
                  have HBw4 := Lib.hid (below_trans HB2.out hb4)
                  have HB14 := Lib.hid (below_trans HB12.out hb4)
                  clear hg2 hn3 hb4 hg4
                  clear hb hnm))
              | ((with_reducible apply op_lookup); exact HLKA.out; exact rfl; exact rfl; clear HLKA)
              | ((with_reducible apply op_lookup); exact HLKB.out; exact rfl; exact rfl; clear HLKB)
              | ((with_reducible apply op_store); exact HSTA.out; exact rfl; exact rfl; clear HSTA)
              | ((with_reducible apply op_store); exact HSTB.out; exact rfl; exact rfl; clear HSTB)
              | (go_at_call 50
                 (
                  have hfu := full_any (HX.out.2.1.below HBw4.out) HX.out.2.2.2.1 g.nextRel
                  rw [show (gsOf g).graph = g from rfl, HFL.out] at hfu
                  refine hfu.mono ?_
                  rintro e w6 ⟨rfl, hb⟩
                  have hb6 := below_trans HBw4.out hb
                  have hg6 := HX.out.2.1.below hb6
                  have p46 : w6.cell? ⟨B.gx, 4, none⟩ = some (.int .i64 g.nextRel) := cellOf (o := 4) hg6.box rfl
                  have hb7 := below_new (w := w6) (.cells (relBox ⟨g.nextRel, src, dst, type, storeD props⟩ pv1 cv1) 49)
                  have hx7 := heap_alloc_new w6 (.cells (relBox ⟨g.nextRel, src, dst, type, storeD props⟩ pv1 cv1) 49)
                  have hbw7 := below_trans hb6 hb7
                  have hx : ROwn (w6.alloc (.cells (relBox ⟨g.nextRel, src, dst, type, storeD props⟩ pv1 cv1) 49)).drew (fun b => w.heap.size ≤ b) ⟨g.nextRel, src, dst, type, storeD props⟩ (relBox ⟨g.nextRel, src, dst, type, storeD props⟩ pv1 cv1) := ⟨_, rfl, HO1.out.below el_prop (below_trans HB14.out (below_trans hb hb7.drew))⟩
                  obtain ⟨w8, r1, r2, r3, r4⟩ := HX.out.2.1.putRel HX.out.2.2.1 hbw7.drew hx HIR.out
                  have HU := Lib.hid r1
                  have hfr := StT.fresh (P := Tryz.prog) (W := w6) st_rel (show (relBox ⟨g.nextRel, src, dst, type, storeD props⟩ pv1 cv1).size = 5 from rfl) (by simp [relBox, Value.oneCell'])
                  have HFR := Lib.hid hfr
                  have HY := Lib.hid (And.intro hg6 (And.intro hb7 (And.intro hx7 (And.intro hbw7 (And.intro r2 (And.intro r3 r4))))))
                  clear hb hfu hb6 hg6 hb7 hx7 hbw7 hx r1 r2 r3 r4 hfr))
              | ((with_reducible apply op_store); exact HFR.out _ rfl; exact rfl; exact rfl; clear HFR))
            obtain ⟨hg6, hb7, hx7, hbw7, r2, r3, r4⟩ := HY.out
            have hg7 := hg6.below hb7
            have hw6 : (w6.alloc (.cells (relBox ⟨g.nextRel, src, dst, type, storeD props⟩ pv1 cv1) 49)).heap.size = w6.heap.size + 1 := by simp
            have hS0 : (w6.alloc (.cells (relBox ⟨g.nextRel, src, dst, type, storeD props⟩ pv1 cv1) 49)).drew.heap[B.gx]? = some (.cells (gBoxV B (gsOf g)) 72 (0, 0)) ∧ (w6.alloc (.cells (relBox ⟨g.nextRel, src, dst, type, storeD props⟩ pv1 cv1) 49)).drew.heap[w6.heap.size]? = some (.cells (relBox ⟨g.nextRel, src, dst, type, storeD props⟩ pv1 cv1) 49 (0, 0)) := ⟨hg7.box, hx7⟩
            refine plain_region_draws (fun W => W.heap[B.gx]? = some (.cells (gBoxV B (gsOf g)) 72 (0, 0)) ∧ W.heap[w6.heap.size]? = some (.cells (relBox ⟨g.nextRel, src, dst, type, storeD props⟩ pv1 cv1) 49 (0, 0))) (by kernel_rfl) hS0 (fun hS => ?_)
            refine tk 0 72 (v := .pointer (some ⟨B.gx, 0, none⟩)) rfl rfl (fun W hW => exec_move rfl rfl) ?_
            simp only [Act.put, sA, sZ, sS]
            refine tk 1 73 (v := .pointer (some ⟨B.gx, 0, none⟩)) rfl rfl (fun W hW => rfl) ?_
            simp only [Act.put, sA, sZ, sS]
            refine tk 2 74 (v := .pointer (some ⟨B.gx, 1, none⟩)) rfl rfl (fun W hW => exec_fieldAddr rfl rfl (fa_graph 1 (by omega) _ W)) ?_
            simp only [Act.put, sA, sZ, sS]
            refine tk 3 75 (v := .map (some B.br)) rfl rfl (fun W hW => exec_load rfl rfl (run_load1 (w := W) Tryz.underlying69 rfl (cellOf (o := 1) hW.1 rfl))) ?_
            simp only [Act.put, sA, sZ, sS]
            refine tk 4 76 (v := .pointer (some ⟨w6.heap.size, 0, none⟩)) rfl rfl (fun W hW => exec_fieldAddr rfl rfl (fa_rel0 _ W)) ?_
            simp only [Act.put, sA, sZ, sS]
            refine tk 5 77 (v := .int .i64 g.nextRel) rfl rfl (fun W hW => exec_load rfl rfl (run_load1 (w := W) Tryz.underlying2 rfl (cellOf (o := 0) hW.2 rfl))) ?_
            simp only [Act.put, sA, sZ, sS]
            refine tk 6 78 (v := .agg (relBox ⟨g.nextRel, src, dst, type, storeD props⟩ pv1 cv1)) rfl rfl (fun W hW => exec_load rfl rfl (st_rel.get (P := Tryz.prog) rfl hW.2)) ?_
            simp only [Act.put, sA, sZ, sS]
            refine onlySkip 7 rfl rfl (by kernel_rfl) rfl (exec_mapUpdate rfl rfl rfl rfl HU.out) (.inl (by kernel_rfl)) ?_
            refine done (by kernel_rfl) ?_ _
            have hx8 : w8.heap[w6.heap.size]? = some (.cells (relBox ⟨g.nextRel, src, dst, type, storeD props⟩ pv1 cv1) 49 (0, 0)) := (r3.block _ (by show w6.heap.size < (w6.alloc (.cells (relBox ⟨g.nextRel, src, dst, type, storeD props⟩ pv1 cv1) 49)).heap.size; omega) (by have := hg6.lts.2.2.1; omega)).trans hx7
            have hS8 : ∀ b, w8.heap.size ≤ b → S b := fun b hb => HX.out.2.2.1 b (by have := hbw7.size; have r4' : w8.heap.size = (w6.alloc (.cells (relBox ⟨g.nextRel, src, dst, type, storeD props⟩ pv1 cv1) 49)).heap.size := r4; omega)
            have hlk := link_any r2.box r2.adj hS8 ⟨g.nextRel, src, dst, type, storeD props⟩ pv1 cv1 HX.out.2.2.2.2.2.2
            have HLD := Lib.hid (st_rel.get (P := Tryz.prog) (W := w8) rfl hx8)
            have HLK := Lib.hid hlk
            have hT8 : Touch S w w8 := Touch.pre hbw7.drew (r3.mono fun b _ e => by rw [e]; exact HX.out.2.1.own.2.2)
            have HZ := Lib.hid (And.intro r2 (And.intro hx8 (And.intro hT8 (show w6.heap.size < w8.heap.size by have r4' : w8.heap.size = (w6.alloc (.cells (relBox ⟨g.nextRel, src, dst, type, storeD props⟩ pv1 cv1) 49)).heap.size := r4; omega))))
            have HG6 := Lib.hid hg6
            clear hg6 hb7 hx7 hbw7 r2 r3 r4 hg7 hw6 hS0 hS hx8 hS8 hlk hT8 HY HU
            go_wp2_with (first
              | ((with_reducible apply op_load); exact HLD.out; exact rfl; clear HLD)
              | ((with_reducible apply op_store); exact HSR.out; exact rfl; exact rfl; clear HSR)
              | (go_at_call 41
                 (
                  refine HLK.out.mono ?_
                  rintro e w9 ⟨rfl, hl9⟩
                  obtain ⟨ma9, l1, l2, l3⟩ := hl9
                  have hg9 := HZ.out.1.linked l1 l2 l3
                  have hT9 : Touch S w w9 := HZ.out.2.2.1.step (l3.mono fun b _ e => e.elim (fun e => by rw [e]; exact HZ.out.1.adj.own) fun e => (HZ.out.1.adj.block e).2.1) fun b _ hs => hs
                  have hx9 : w9.heap[w6.heap.size]? = some (.cells (relBox ⟨g.nextRel, src, dst, type, storeD props⟩ pv1 cv1) 49 (0, 0)) := (l3.block _ HZ.out.2.2.2 (fun e => by
                    have hlt := HG6.out.lts
                    rcases e with e | e
                    · omega
                    · exact (HZ.out.1.adj.other HZ.out.2.1 (by decide)).2 e)).trans HZ.out.2.1
                  obtain ⟨w10, q1, q2, q3, q4⟩ := hg9.setNR (g.nextRel + 1)
                  have p49 : w9.cell? ⟨B.gx, 4, none⟩ = some (.int .i64 g.nextRel) := cellOf (o := 4) hg9.box rfl
                  have p010 : w10.cell? ⟨w6.heap.size, 0, none⟩ = some (.int .i64 g.nextRel) := cellOf (o := 0) ((q3.block _ (Array.getElem?_eq_some_iff.1 hx9).1 (fun e => by have := HG6.out.lts.1; omega)).trans hx9) rfl
                  have HSR := Lib.hid q1
                  have HF := Lib.hid (And.intro q2 (hT9.step (q3.mono (S' := S) fun b _ e => by rw [e]; exact hg9.own.1) fun b _ hs => hs))
                  clear l1 l2 l3 hg9 hT9 hx9 q1 q2 q3 q4)))
            go_ret2
            refine ⟨rfl, ⟨ma9, ?_⟩, HF.out.2⟩
            have := HF.out.1
            have e1 := HX.out.2.2.2.2.1 ⟨g.nextRel, src, dst, type, storeD props⟩ rfl
            have e2 := HX.out.2.2.2.2.2.1 ⟨g.nextRel, src, dst, type, storeD props⟩ rfl
            have e3 : ({ nodes := g.nodes, rels := putBy RelD.id ⟨g.nextRel, src, dst, type, storeD props⟩ g.rels, adj := linkK (linkK (touchD g.rels) src g.nextRel) dst g.nextRel, nn := g.nextNode, nr := g.nextRel + 1 } : GS) = gsOf ⟨g.nodes, g.rels ++ [⟨g.nextRel, src, dst, type, storeD props⟩], g.nextNode, g.nextRel + 1⟩ := by
              rw [e1]
              have := congrArg (fun s : GS => { s with nr := g.nextRel + 1 }) e2
              exact this
            rw [← e3]
            exact this
end Go.Proofs.YtihfnegakcghiaaGreatDoor
namespace Go.Proofs.YtihfnegakcghiaaGreatDoor
open Go.RowKit
def relZ : Array Value := #[.int .i64 0, .int .i64 0, .int .i64 0, .string ⟨#[]⟩, .slice none 0 0]
def hasR (g : GraphD) (k : Int) : Bool := g.rels.any fun r => r.id == k
theorem GM.lookR {S : Nat → Prop} {W : World} {B : GB} {ma : Int → Option Value} {s : GS} (h : GM S W B ma s) (k : Int) :
    ∃ x, x.size = 5 ∧ (∀ u ∈ x.toList, u.oneCell' = true) ∧ (∀ W' : World, W'.heap[B.br]? = W.heap[B.br]? → (Instr.lookup 69 (.map (some B.br)) (.int .i64 k) true).run Tryz.prog W' = .ok (.tuple #[.agg x, .bool (hasR s.graph k)]) W') ∧ (∀ a ∈ s.rels, a.id = k → ROwn W (fun b => S b ∧ ¬ GSp B ma b) a x) ∧ (hasR s.graph k = false → x = relZ) := by
  obtain ⟨x, h1, h2, h3⟩ := h.rels.get2 (P := Tryz.prog) Tryz.underlying69 Tryz.underlying2 (z := relZ) (fun w => Tryz.zeroValue49 w) k
  have hh : hasR s.graph k = s.rels.any fun a => a.id == k := rfl
  rw [← hh] at h1 h3
  refine ⟨x, ?_, ?_, h1, h2, h3⟩
  · cases hf : hasR s.graph k with
    | false => rw [h3 hf]; rfl
    | true =>
      rw [hh, List.any_eq_true] at hf
      obtain ⟨a, ha, e⟩ := hf
      exact el_rel.size (h2 a ha (by simpa using e))
  · cases hf : hasR s.graph k with
    | false => rw [h3 hf]; simp [relZ, Value.oneCell']
    | true =>
      rw [hh, List.any_eq_true] at hf
      obtain ⟨a, ha, e⟩ := hf
      exact el_rel.ones (h2 a ha (by simpa using e))
theorem dropD_rel (g : GraphD) (i : Int) : dropD g true i = if hasR g i = false then (g, 5) else (⟨g.nodes, g.rels.filter fun r => !(r.id == i), g.nextNode, g.nextRel⟩, 0) := by
  unfold dropD hasR
  simp only [if_true]
  cases g.rels.any fun r => r.id == i <;> rfl
theorem dropD_node (g : GraphD) (i : Int) : dropD g false i = if hasN g i = false then (g, 5) else if touchD g.rels i ≠ [] then (g, 150) else (⟨g.nodes.filter fun n => !(n.id == i), g.rels, g.nextNode, g.nextRel⟩, 0) := by
  unfold dropD
  rw [if_neg (by simp)]
theorem dropN_any {S : Nat → Prop} {w : World} {B : GB} {g : GraphD} (hg : GG S w B g) (hS : ∀ b, w.heap.size ≤ b → S b) (hok : okG g = true) (i : Int) :
    Calls Tryz.prog 38 #[.pointer (some ⟨B.gx, 0, none⟩), .bool false, .int .i64 i] w fun e w' => e = .returned (.int .i64 (dropD g false i).2) ∧ GG S w' B (dropD g false i).1 ∧ Touch S w w' := by
  have HG := Lib.hid hg
  obtain ⟨ma, h⟩ := hg
  obtain ⟨⟨k1, _⟩, _⟩ := (okG_iff _).1 hok
  have HNO := Lib.hid (none_no h.box)
  obtain ⟨xa, hza, hoa, hlka, _, _⟩ := h.look i
  have hgr : (gsOf g).graph = g := rfl
  rw [hgr] at hlka
  have hlk0 := hlka w rfl
  have hb1 := below_new (w := w) (.cells xa 45)
  have h1 := h.below hb1
  have HSTA := Lib.hid (StT.fresh (P := Tryz.prog) (W := w) st_node hza hoa nodeZ rfl)
  have p0 : w.cell? ⟨B.gx, 0, none⟩ = some (.map (some B.bn)) := cellOf (o := 0) h.box rfl
  rw [dropD_node]
  have hrl := touchD_len g.rels i
  cases hfa : hasN g i with
  | false =>
    rw [hfa] at hlk0
    have HLKA := Lib.hid hlk0
    have HB1 := Lib.hid hb1
    rw [if_pos rfl]
    clear hlk0 hlka h h1 hb1 hgr hza hoa k1 hok hfa hrl
    go_enter Tryz.func38, Tryz.ntmps38
    go_wp2_with (first
      | (go_at_call 42; refine HNO.out.mono ?_; rintro e w0 ⟨rfl, hw0⟩; have hw0 := hw0.symm; subst hw0)
      | ((with_reducible apply op_lookup); exact HLKA.out; exact rfl; exact rfl; clear HLKA)
      | ((with_reducible apply op_store); exact HSTA.out; exact rfl; exact rfl; clear HSTA))
    go_ret
    exact ⟨rfl, HG.out.below HB1.out, touch_of_below HB1.out⟩
  | true =>
    rw [hfa] at hlk0
    have HLKA := Lib.hid hlk0
    rw [if_neg (by simp)]
    have p01 : (w.alloc (.cells xa 45)).cell? ⟨B.gx, 0, none⟩ = some (.map (some B.bn)) := cellOf (o := 0) h1.box rfl
    have p21 : (w.alloc (.cells xa 45)).cell? ⟨B.gx, 2, none⟩ = some (.map (some B.ba)) := cellOf (o := 2) h1.box rfl
    have hrw := h1.adj.row i
    obtain ⟨pr, cr, hre⟩ := slices_of hrw
    have hlr : (Instr.lookup 70 (.map (some B.ba)) (.int .i64 i) false).run Tryz.prog (w.alloc (.cells xa 45)) = .ok (.slice pr (touchD g.rels i).length cr) (w.alloc (.cells xa 45)) := by rw [look_row h1.adj.map i, hre]; rfl
    have HLKR := Lib.hid hlr
    by_cases ht : touchD g.rels i = []
    · rw [if_neg (by simp [ht])]
      have hz : (touchD g.rels i).length = 0 := by rw [ht]; rfl
      rw [hz] at HLKR
      obtain ⟨w2, d1, d2, d3, d4⟩ := h1.delNode i 45 0
      have hdel := fun T2 ty => h1.delNode i T2 ty
      have HDEL := Lib.hid (fun T2 ty => h1.delNode i T2 ty)
      have HH := Lib.hid (And.intro h hb1)
      have HT := Lib.hid ht
      clear hlk0 hlka h h1 hb1 hgr hza hoa k1 hok hfa hrw hre hlr hz ht d1 d2 d3 d4 hdel hrl w2
      obtain ⟨TN, hTN⟩ : ∃ T : TypeId, T = 2 := ⟨_, rfl⟩
      obtain ⟨w2, d1, d2, d3, d4⟩ := HDEL.out 2 0
      have p22 : w2.cell? ⟨B.gx, 2, none⟩ = some (.map (some B.ba)) := cellOf (o := 2) d2.box rfl
      obtain ⟨w3, ma3, q1, q2, q3, q4, q5⟩ := d2.delRow i 2 0
      have HD1 := Lib.hid d1
      have HD2 := Lib.hid q1
      have HF := Lib.hid (And.intro q2 (And.intro (d3.mono (S' := S) fun b _ e => by rw [e]; exact HH.out.1.own.2.1) (q4.mono (S' := S) fun b _ e => by rw [e]; exact HH.out.1.adj.own)))
      clear d1 d2 d3 d4 q1 q2 q3 q4 q5 hTN
      go_enter Tryz.func38, Tryz.ntmps38
      go_wp2_with (first
        | (go_at_call 42; refine HNO.out.mono ?_; rintro e w0 ⟨rfl, hw0⟩; have hw0 := hw0.symm; subst hw0)
        | ((with_reducible apply op_lookup); exact HLKA.out; exact rfl; exact rfl; clear HLKA)
        | ((with_reducible apply op_store); exact HSTA.out; exact rfl; exact rfl; clear HSTA)
        | ((with_reducible apply op_lookup); exact HLKR.out; exact rfl; exact rfl; clear HLKR)
        | ((with_reducible apply op_delete); exact HD1.out; exact rfl; exact rfl; clear HD1)
        | ((with_reducible apply op_delete); exact HD2.out; exact rfl; exact rfl; clear HD2))
      go_ret
      refine ⟨rfl, ⟨ma3, ?_⟩, Touch.pre HH.out.2 (HF.out.2.1.step HF.out.2.2 fun b _ hs => hs)⟩
      have hq := HF.out.1
      have e : setI (gsOf g).adj i [] = touchD g.rels := by
        funext j
        unfold setI
        split
        · rename_i e; rw [e, HT.out]
        · rfl
      rw [e] at hq
      exact hq
    · rw [if_pos ht]
      have hz : (0 : Int) < ((touchD g.rels i).length : Int) := by
        cases hl : touchD g.rels i with
        | nil => exact absurd hl ht
        | cons a r => simp
      have HB1 := Lib.hid hb1
      generalize (touchD g.rels i).length = tn at *
      clear hlk0 hlka h h1 hb1 hgr hza hoa k1 hok hfa hrw hre hlr ht
      go_enter Tryz.func38, Tryz.ntmps38
      go_wp2_with (first
        | (go_at_call 42; refine HNO.out.mono ?_; rintro e w0 ⟨rfl, hw0⟩; have hw0 := hw0.symm; subst hw0)
        | ((with_reducible apply op_lookup); exact HLKA.out; exact rfl; exact rfl; clear HLKA)
        | ((with_reducible apply op_store); exact HSTA.out; exact rfl; exact rfl; clear HSTA)
        | ((with_reducible apply op_lookup); exact HLKR.out; exact rfl; exact rfl; clear HLKR))
      go_ret
      exact ⟨rfl, HG.out.below HB1.out, touch_of_below HB1.out⟩
theorem dropR_any {S : Nat → Prop} {w : World} {B : GB} {g : GraphD} (hg : GG S w B g) (hS : ∀ b, w.heap.size ≤ b → S b) (hok : okG g = true) (i : Int) :
    Calls Tryz.prog 38 #[.pointer (some ⟨B.gx, 0, none⟩), .bool true, .int .i64 i] w fun e w' => e = .returned (.int .i64 (dropD g true i).2) ∧ GG S w' B (dropD g true i).1 ∧ Touch S w w' := by
  have HG := Lib.hid hg
  obtain ⟨ma, h⟩ := hg
  obtain ⟨⟨k1, _⟩, _, _, _, k9⟩ := (okG_iff _).1 hok
  have HNO := Lib.hid (none_no h.box)
  obtain ⟨xa, hza, hoa, hlka, hown, _⟩ := h.lookR i
  have hgr : (gsOf g).graph = g := rfl
  rw [hgr] at hlka
  have hlk0 := hlka w rfl
  have p0 : w.cell? ⟨B.gx, 1, none⟩ = some (.map (some B.br)) := cellOf (o := 1) h.box rfl
  rw [dropD_rel]
  cases hfa : hasR g i with
  | false =>
    rw [hfa] at hlk0
    have HLKA := Lib.hid hlk0
    have HB1 := Lib.hid (below_new (w := w) (.cells xa 49))
    have HSTA := Lib.hid (StT.fresh (P := Tryz.prog) (W := w) st_rel hza hoa relZ rfl)
    rw [if_pos rfl]
    clear hlk0 hlka h hgr hza hoa k1 k9 hok hfa hown
    go_enter Tryz.func38, Tryz.ntmps38
    go_wp2_with (first
      | (go_at_call 42; refine HNO.out.mono ?_; rintro e w0 ⟨rfl, hw0⟩; have hw0 := hw0.symm; subst hw0)
      | ((with_reducible apply op_lookup); exact HLKA.out; exact rfl; exact rfl; clear HLKA)
      | ((with_reducible apply op_store); exact HSTA.out; exact rfl; exact rfl; clear HSTA))
    go_ret
    exact ⟨rfl, HG.out.below HB1.out, touch_of_below HB1.out⟩
  | true =>
    rw [hfa] at hlk0
    have HLKA := Lib.hid hlk0
    rw [if_neg (by simp)]
    obtain ⟨r, hr, hri⟩ : ∃ r ∈ g.rels, r.id = i := by
      unfold hasR at hfa
      rw [List.any_eq_true] at hfa
      obtain ⟨r, hr, e⟩ := hfa
      exact ⟨r, hr, by simpa using e⟩
    obtain ⟨vp, exa, hvp⟩ := hown r hr hri
    obtain ⟨pp, cp, rfl⟩ := hvp.slice
    have exa2 : xa = relBox r pp cp := exa
    rw [exa2] at HLKA
    obtain ⟨w1, hbs, hg1, hr1, hp1, hs1, hbc, hL1⟩ := link_start h.box h.adj r pp cp
    have HSTA := Lib.hid (StT.fresh (P := Tryz.prog) (W := w) st_rel (show (relBox r pp cp).size = 5 from rfl) (by simp [relBox, Value.oneCell']) relZ rfl)
    have hx8 := heap_alloc_new w (.cells (relBox r pp cp) 49)
    have p1 : (w.alloc (.cells (relBox r pp cp) 49)).cell? ⟨w.heap.size, 1, none⟩ = some (.int .i64 r.src) := cellOf (o := 1) hx8 rfl
    have p2 : (w.alloc (.cells (relBox r pp cp) 49)).cell? ⟨w.heap.size, 2, none⟩ = some (.int .i64 r.dst) := cellOf (o := 2) hx8 rfl
    have HBS := Lib.hid hbs
    have HH := Lib.hid (And.intro h hbc)
    have HB0 := Lib.hid h.adj
    have HG1 := Lib.hid hg1
    have HG0 := Lib.hid h.box
    have HP := Lib.hid hp1
    have HS1 := Lib.hid hs1
    have HS := Lib.hid hS
    have HL1 := Lib.hid hL1
    have HADJ := Lib.hid (adj_drop (s := gsOf g) (fun j => rfl) (rises_rise _ k9) hr)
    have HRI := Lib.hid hri
    clear hlk0 hlka h hgr hza hoa k1 k9 hok hfa hown hr hvp exa exa2 hbs hg1 hr1 hp1 hs1 hbc hL1 hx8 hS hri
    go_enter Tryz.func38, Tryz.ntmps38
    go_wp2_with (first
      | (go_at_call 42; refine HNO.out.mono ?_; rintro e w0 ⟨rfl, hw0⟩; have hw0 := hw0.symm; subst hw0)
      | ((with_reducible apply op_lookup); exact HLKA.out; exact rfl; exact rfl; clear HLKA)
      | ((with_reducible apply op_store); exact HSTA.out; exact rfl; exact rfl; clear HSTA)
      | ((with_reducible apply op_bs2); exact HBS.out; exact rfl; exact rfl; clear HBS))
    clear p0 p1 p2
    go_loopw [65] (fun i wr => ∃ j : Nat, j ≤ 2 ∧ i = .int .i64 (j : Int) ∧ Hid (LInv S w1 wr B.ba ma (cutJ (touchD g.rels) r.src r.dst r.id j))) (fun i _ => 2 - (intOf i).toNat)
    case atStart => exact ⟨0, Nat.zero_le _, rfl, HL1⟩
    case round =>
      obtain ⟨j, hj, rfl, HJ⟩ := hrel
      by_cases hlt : j < 2
      · obtain ⟨maj, hA, hsub, hT⟩ := HJ.out
        obtain ⟨k, hk⟩ : ∃ k, [r.src, r.dst][j]? = some k := ⟨_, List.getElem?_eq_getElem (by simpa using hlt)⟩
        have hnx := cutJ_succ (touchD g.rels) (r := r.id) hk
        have hs1 := HS1.out
        have hgx : wr.heap[B.gx]? = some (.cells (gBoxV B (gsOf g)) 72 (0, 0)) := HJ.out.box HB0.out HG0.out HG1.out
        have hpb : wr.heap[w.heap.size + 1]? = some (.cells #[.int .i64 r.src, .int .i64 r.dst] 2 (0, 0)) := (HJ.out.far HB0.out (by omega) (by omega)).trans HP.out
        have HC := Lib.hid (run_load1 (w := wr) (ad := ⟨w.heap.size + 1, j, none⟩) Tryz.underlying2 rfl (cellOf (o := j) hpb (by
          have : (#[Value.int .i64 r.src, .int .i64 r.dst] : Array Value)[j]? = ([r.src, r.dst][j]?).map (Value.int .i64) := by
            match j, hlt with
            | 0, _ => rfl
            | 1, _ => rfl
          rw [this, hk]; rfl)))
        have hsea : ∀ W, Below wr.heap.size wr W → Calls Tryz.prog 96 #[rowAt maj k, .int .i64 r.id] W fun e w' => e = .returned (.tuple #[.int .i64 (((cutJ (touchD g.rels) r.src r.dst r.id j k).countP (· < r.id) : Nat) : Int), .bool ((cutJ (touchD g.rels) r.src r.dst r.id j k).contains r.id)]) ∧ Below W.heap.size W w' := fun W g => by
          have hA2 := hA.below g
          have h2 := hA2.row k
          refine (search_any r.id h2.1 (hA2.rise k) (hA2.few k)).mono ?_
          rintro e w' ⟨rfl, q, rfl⟩
          exact ⟨rfl, below_drewN _ q⟩
        have hfew := hA.few k
        have hSw : ∀ b, wr.heap.size ≤ b → S b := fun b hb => HS.out b (by have := hT.size; omega)
        have hgn := hA.other hgx (by decide)
        have hlt1 := Nat.succ_le_of_lt hlt
        have hcut := fun W8 (hA8 : AtM S W8 B.ba maj (cutJ (touchD g.rels) r.src r.dst r.id j)) (hT8 : Touch (fun b => b = B.ba ∨ Rows ma b) w1 W8) (hS8 : ∀ b, W8.heap.size ≤ b → S b) hc => row_cut (k := k) (x := r.id) hA8 hsub hT8 hS8 hc
        have hcno := fun hc => cutK_none (f := cutJ (touchD g.rels) r.src r.dst r.id j) (k := k) (x := r.id) hc
        have hcp : (cutJ (touchD g.rels) r.src r.dst r.id j k).countP (· < r.id) ≤ 1100000 := Nat.le_trans List.countP_le_length hfew
        have HRI2 := HRI.out
        rw [HRI.out] at hsea hcut hcno hcp hnx
        generalize hfj : cutJ (touchD g.rels) r.src r.dst i j = fj at *
        have hri3 : cutJ (touchD g.rels) r.src r.dst r.id j = fj := by rw [HRI.out]; exact hfj
        rw [hri3] at hA
        obtain ⟨rv, hrv⟩ : ∃ rv, rv = rowAt maj k := ⟨_, rfl⟩
        obtain ⟨pp2, hpp⟩ : ∃ pp, pp = (fj k).countP (· < i) := ⟨_, rfl⟩
        obtain ⟨bb, hbb⟩ : ∃ bb, bb = (fj k).contains i := ⟨_, rfl⟩
        simp only [← hrv, ← hpp, ← hbb, hri3] at hsea
        rw [← hpp] at hcp
        have hlk : ∀ W : World, IntMap W B.ba maj → (Instr.lookup 70 (.map (some B.ba)) (.int .i64 k) false).run Tryz.prog W = .ok rv W := fun W hW => by rw [hrv]; exact look_row hW k
        have p20 : wr.cell? ⟨B.gx, 2, none⟩ = some (.map (some B.ba)) := cellOf (o := 2) hgx rfl
        have HLK := Lib.hid (hlk wr hA.map)
        have HSEA := Lib.hid (hsea wr (Below.refl _ _))
        have HX := Lib.hid (And.intro hA (And.intro hsub (And.intro hT (And.intro hnx (And.intro hgx (And.intro hSw (And.intro hgn (And.intro hlk (And.intro hrv (And.intro hpp (And.intro hbb hri3)))))))))))
        have HCUT := Lib.hid (And.intro hcut hcno)
        clear hA hsub hT hnx hs1 hgx hpb hsea hSw hgn hlk hrv hpp hk hfj hcut hcno hfew hri3 HRI2
        cases bb with
        | false =>
          have HBB := Lib.hid hbb
          clear hbb hcp
          go_wp2_with (first
            | ((with_reducible apply op_load); exact HC.out; exact rfl; clear HC)
            | ((with_reducible apply op_lookup); exact HLK.out; exact rfl; exact rfl; clear HLK)
            | (go_at_call 96; refine HSEA.out.mono ?_; rintro e W8 ⟨rfl, hb⟩; have HB8 := Lib.hid hb; clear hb))
          go_roundw
          case rel =>
            refine ⟨j + 1, hlt1, by go_num, Lib.hid ?_⟩
            obtain ⟨hA, hsub, hT, hnx, _⟩ := HX.out
            rw [HRI.out, hnx, HCUT.out.2 HBB.out.symm]
            exact ⟨maj, hA.below HB8.out, hsub, hT.grow HB8.out⟩
          case measure => simp [intOf]; omega
        | true =>
          have HBB := Lib.hid hbb
          have hw1 : IntKind.i64.wrap ((pp2 : Int) + 1) = (pp2 : Int) + 1 := by rw [IntKind.wrap_i64]; omega
          have hadd1 : ∀ W : World, (binOp .add 3 (.int .i64 (pp2 : Int)) (.int .i64 1)).run Tryz.prog W = .ok (.int .i64 ((pp2 : Int) + 1)) W := fun W => by simp [go_sem, hw1]
          have HADD := Lib.hid hadd1
          clear hbb hcp hw1 hadd1
          go_wp2_with (first
            | ((with_reducible apply op_load); exact HC.out; exact rfl; clear HC)
            | ((with_reducible apply op_lookup); exact HLK.out; exact rfl; exact rfl; clear HLK)
            | (go_at_call 96; refine HSEA.out.mono ?_; rintro e W8 ⟨rfl, hb⟩; have HB8 := Lib.hid hb; clear hb))
          obtain ⟨hA, hsub, hT, hnx, hgx, hSw, hgn, hlk, hrv, hpp, hbb2, hri3⟩ := HX.out
          have hA8 := hA.below HB8.out
          have hT8 := hT.grow HB8.out
          have hSw8 : ∀ b, W8.heap.size ≤ b → S b := fun b hb => hSw b (by have := HB8.out.size; omega)
          have hg8 : W8.heap[B.gx]? = some (.cells (gBoxV B (gsOf g)) 72 (0, 0)) := belowBlk HB8.out (Array.getElem?_eq_some_iff.1 hgx).1 hgx
          have c3 := HCUT.out.1 W8 hA8 hT8 hSw8 HBB.out.symm
          have hadd := HADD.out
          simp only [← hrv, ← hpp] at c3
          have hS0 : W8.drew.heap[B.gx]? = some (.cells (gBoxV B (gsOf g)) 72 (0, 0)) ∧ IntMap W8.drew B.ba maj := ⟨hg8, hA8.map.of_heap rfl⟩
          refine plain_region_draws (fun W => W.heap[B.gx]? = some (.cells (gBoxV B (gsOf g)) 72 (0, 0)) ∧ IntMap W B.ba maj) (by kernel_rfl) hS0 (fun hS => ?_)
          refine tk 0 81 (v := .pointer (some ⟨B.gx, 0, none⟩)) rfl rfl (fun W hW => exec_move rfl rfl) ?_
          simp only [Act.put, sA, sZ, sS]
          refine tk 1 82 (v := .pointer (some ⟨B.gx, 0, none⟩)) rfl rfl (fun W hW => rfl) ?_
          simp only [Act.put, sA, sZ, sS]
          refine tk 2 83 (v := .pointer (some ⟨B.gx, 2, none⟩)) rfl rfl (fun W hW => exec_fieldAddr rfl rfl (fa_graph 2 (by omega) _ W)) ?_
          simp only [Act.put, sA, sZ, sS]
          refine tk 3 84 (v := .map (some B.ba)) rfl rfl (fun W hW => exec_load rfl rfl (run_load1 (w := W) Tryz.underlying70 rfl (cellOf (o := 2) hW.1 rfl))) ?_
          simp only [Act.put, sA, sZ, sS]
          refine tk 4 85 (v := .int .i64 k) rfl rfl (fun W hW => exec_move rfl rfl) ?_
          simp only [Act.put, sA, sZ, sS]
          refine tk 5 86 (v := .pointer (some ⟨B.gx, 0, none⟩)) rfl rfl (fun W hW => exec_move rfl rfl) ?_
          simp only [Act.put, sA, sZ, sS]
          refine tk 6 87 (v := .pointer (some ⟨B.gx, 0, none⟩)) rfl rfl (fun W hW => rfl) ?_
          simp only [Act.put, sA, sZ, sS]
          refine tk 7 88 (v := .pointer (some ⟨B.gx, 2, none⟩)) rfl rfl (fun W hW => exec_fieldAddr rfl rfl (fa_graph 2 (by omega) _ W)) ?_
          simp only [Act.put, sA, sZ, sS]
          refine tk 8 89 (v := .map (some B.ba)) rfl rfl (fun W hW => exec_load rfl rfl (run_load1 (w := W) Tryz.underlying70 rfl (cellOf (o := 2) hW.1 rfl))) ?_
          simp only [Act.put, sA, sZ, sS]
          refine tk 9 90 (v := .int .i64 k) rfl rfl (fun W hW => exec_move rfl rfl) ?_
          simp only [Act.put, sA, sZ, sS]
          refine tk 10 91 (v := rv) rfl rfl (fun W hW => exec_lookup rfl rfl rfl (hlk W hW.2)) ?_
          simp only [Act.put, sA, sZ, sS]
          refine tk 11 92 (v := .int .i64 (pp2 : Int)) rfl rfl (fun W hW => exec_move rfl rfl) ?_
          simp only [Act.put, sA, sZ, sS]
          refine tk 12 93 (v := .int .i64 (pp2 : Int)) rfl rfl (fun W hW => exec_move rfl rfl) ?_
          simp only [Act.put, sA, sZ, sS]
          refine tk 13 94 (v := .int .i64 ((pp2 : Int) + 1)) rfl rfl (fun W hW => exec_bini rfl rfl rfl (hadd W)) ?_
          simp only [Act.put, sA, sZ, sS]
          refine onlyCall 14 95 rfl rfl (by kernel_rfl) rfl (exec_call [rv, .int .i64 (pp2 : Int), .int .i64 ((pp2 : Int) + 1)] rfl rfl Tryz.func97 (by kernel_rfl) (by kernel_rfl)) ?_
          refine c3.mono ?_
          rintro e W15 ⟨v15, rfl, m0, W16, m1, m2⟩
          have hS15 : W15.heap[B.gx]? = some (.cells (gBoxV B (gsOf g)) 72 (0, 0)) ∧ IntMap W15 B.ba maj := ⟨(m0 _ (Array.getElem?_eq_some_iff.1 hg8).1 hgn.2).trans hg8, hA8.map.of_heap (m0 _ hA8.map.lt hA8.ne)⟩
          refine ⟨_, rfl, .inr hS15, ?_⟩
          simp only [Act.put, sA, sZ, sS]
          refine onlySkip 15 rfl rfl (by kernel_rfl) rfl (exec_mapUpdate rfl rfl rfl rfl m1) (.inl (by kernel_rfl)) ?_
          refine done (by kernel_rfl) ?_ _
          have HN := Lib.hid (show LInv S w1 W16 B.ba ma (cutJ (touchD g.rels) r.src r.dst r.id (j + 1)) from by rw [HRI.out, hnx]; exact m2)
          clear hA hsub hT hnx hgx hSw hgn hlk hrv hpp hbb2 hri3 hA8 hT8 hSw8 hg8 c3 hadd hS0 hS m0 m1 m2 hS15
          go_wp2
          go_roundw
          case rel => exact ⟨j + 1, hlt1, by go_num, HN⟩
          case measure => simp [intOf]; omega
      · obtain rfl : j = 2 := by omega
        obtain ⟨m2, h1, h2, h3⟩ := HJ.out
        have hg1 := HH.out.1.below HH.out.2
        have hg2 := hg1.linked h1 (fun b hb hr => h2 b hb hr) h3
        obtain ⟨w9, q1, q2, q3, q4⟩ := hg2.delRel i 2 0
        have p12 : wr.cell? ⟨B.gx, 1, none⟩ = some (.map (some B.br)) := cellOf (o := 1) hg2.box rfl
        have HD := Lib.hid q1
        have hTs : Touch S w w9 := (Touch.pre HH.out.2 (h3.mono (S' := S) fun b _ e => e.elim (fun e => by rw [e]; exact HB0.out.own) fun e => (HB0.out.block e).2.1)).step (q3.mono (S' := S) fun b _ e => by rw [e]; exact hg2.own.2.2) fun b _ hs => hs
        have HF := Lib.hid (And.intro q2 hTs)
        clear h1 h2 h3 hg1 hg2 q1 q2 q3 q4 hTs
        go_wp2_with ((with_reducible apply op_delete); exact HD.out; exact rfl; exact rfl; clear HD)
        go_ret
        refine ⟨rfl, ⟨m2, ?_⟩, HF.out.2⟩
        have hq := HF.out.1
        have ha := gsOf_eq HADJ.out
        rw [cutJ_two] at hq
        have e : (⟨g.nodes, g.rels.filter (fun y => !(y.id == i)), cutK (cutK (touchD g.rels) r.src r.id) r.dst r.id, g.nextNode, g.nextRel⟩ : GS) = gsOf ⟨g.nodes, g.rels.filter fun y => !(y.id == i), g.nextNode, g.nextRel⟩ := by
          rw [← HRI.out]
          exact ha
        rw [← e]
        exact hq
end Go.Proofs.YtihfnegakcghiaaGreatDoor
namespace Go.Proofs.YtihfnegakcghiaaGreatDoor
open Go.RowKit
theorem addNode_gg {S : Nat → Prop} {w : World} {B : GB} {g : GraphD} (hE : Env w) (hg : GG S w B g) (hS : ∀ b, w.heap.size ≤ b → S b) (hok : okG g = true) {pl : Option Addr} {cl : Nat} {labels : List (List UInt8)} (hl : RdS w pl cl labels) (hl1 : labels.length ≤ 1100000) {pp : Option Addr} {cp : Nat} {props : List PropD} (hp : GRd PRd 7 w pp cp props) (hp1 : PsOk props) :
    Calls Tryz.prog 15 #[.pointer (some ⟨B.gx, 0, none⟩), .slice pl labels.length cl, .slice pp props.length cp] w fun e w' => e = .returned (.tuple #[.int .i64 (addNodeD g labels props).2.1, .int .i64 (addNodeD g labels props).2.2]) ∧ GG S w' B (addNodeD g labels props).1 ∧ Touch S w w' := by
  obtain ⟨ma, h⟩ := hg
  refine (addNode_any hE h hS hok hl hl1 hp hp1).mono ?_
  rintro e w' ⟨he, h1, h2⟩
  have hgr : (gsOf g).graph = g := rfl
  rw [hgr] at he h1
  refine ⟨he, ⟨ma, ?_⟩, h2⟩
  have hr : (addNodeD g labels props).1.rels = g.rels := by
    unfold addNodeD
    split
    · rfl
    · split <;> rfl
  unfold gsOf
  rw [hr]
  exact h1
theorem drop_gg {S : Nat → Prop} {w : World} {B : GB} {g : GraphD} (hg : GG S w B g) (hS : ∀ b, w.heap.size ≤ b → S b) (hok : okG g = true) (rel : Bool) (i : Int) :
    Calls Tryz.prog 38 #[.pointer (some ⟨B.gx, 0, none⟩), .bool rel, .int .i64 i] w fun e w' => e = .returned (.int .i64 (dropD g rel i).2) ∧ GG S w' B (dropD g rel i).1 ∧ Touch S w w' := by
  cases rel with
  | false => exact dropN_any hg hS hok i
  | true => exact dropR_any hg hS hok i
theorem RdS.pair {W : World} {g : Nat} {a b : List UInt8} (h : W.heap[g]? = some (.cells #[.string (strB a), .string (strB b)] 9 (0, 0))) (ha : a.length ≤ 1000) (hb : b.length ≤ 1000) : RdS W (some ⟨g, 0, none⟩) 2 [a, b] := by
  refine ⟨Nat.le_refl _, by simp, fun e => (by cases e), fun s hs => ?_, fun ad had => ?_⟩
  · rcases List.mem_cons.1 hs with rfl | hs
    · omega
    · rw [List.mem_singleton.1 hs]; omega
  · cases had
    refine ⟨fun _ => rfl, fun i s hs => ?_⟩
    match i, hs with
    | 0, hs => cases hs; exact cellOf (o := 0) h rfl
    | 1, hs => cases hs; exact cellOf (o := 1) h rfl
    | n + 2, hs => simp at hs
theorem GRd.single {W : World} {g : Nat} {p : PropD} {x : Array Value} (h : W.heap[g]? = some (.cells x 47 (0, 0))) (hx : PRd W p x) : GRd PRd 7 W (some ⟨g, 0, none⟩) 1 [p] := by
  refine ⟨⟨Nat.le_refl _, by simp, fun e => (by cases e)⟩, fun ad had => ?_⟩
  cases had
  refine ⟨fun _ => rfl, fun j v hv => ?_⟩
  match j, hv with
  | 0, hv =>
    cases hv
    refine ⟨x, ef_prop.size hx, fun i u hu => ?_, hx⟩
    have := cellOf (o := i) h hu
    simpa using this
  | n + 1, hv => simp at hv
theorem RdS.none (W : World) : RdS W none 0 [] := ⟨Nat.le_refl _, by simp, fun _ => rfl, fun s hs => by simp at hs, fun ad had => by cases had⟩
theorem GRd.none {α : Type} (F : World → α → Array Value → Prop) (K : Nat) (W : World) : GRd F K W none 0 ([] : List α) := ⟨⟨Nat.le_refl _, by simp, fun _ => rfl⟩, fun ad had => by cases had⟩
def kLabels : List (List UInt8) := [[66], [65]]
def kVal : V := .mk 2 false 1 [] [] []
def kProps : List PropD := [⟨[107], kVal⟩]
def kg1 : GraphD := ⟨[⟨0, [[65], [66]], kProps⟩], [], 1, 0⟩
def kg2 : GraphD := ⟨[⟨0, [[65], [66]], kProps⟩, ⟨1, [], []⟩], [], 2, 0⟩
def kg3 : GraphD := ⟨[⟨0, [[65], [66]], kProps⟩, ⟨1, [], []⟩], [⟨0, 0, 1, [84], []⟩], 2, 1⟩
def kg4 : GraphD := ⟨[⟨0, [[65], [66]], kProps⟩, ⟨1, [], []⟩], [], 2, 1⟩
def kg5 : GraphD := ⟨[⟨1, [], []⟩], [], 2, 1⟩
theorem kok0 : okG graph0 = true := by kernel_rfl
theorem kok1 : okG kg1 = true := by kernel_rfl
theorem kok2 : okG kg2 = true := by kernel_rfl
theorem kok3 : okG kg3 = true := by kernel_rfl
theorem kok4 : okG kg4 = true := by kernel_rfl
theorem kadd1 : addNodeD graph0 kLabels kProps = (kg1, 0, 0) := by kernel_rfl
theorem kadd2 : addNodeD kg1 [] [] = (kg2, 1, 0) := by kernel_rfl
theorem kadd3 : addRelD kg2 0 1 [84] [] = (kg3, 0, 0) := by kernel_rfl
theorem kadd4 : addRelD kg3 0 2 [84] [] = (kg3, 0, 5) := by kernel_rfl
theorem kdrop1 : dropD kg3 false 0 = (kg3, 150) := by kernel_rfl
theorem kdrop2 : dropD kg3 true 0 = (kg4, 0) := by kernel_rfl
theorem kdrop3 : dropD kg4 false 0 = (kg5, 0) := by kernel_rfl
theorem kbound : GOk kg5 := by refine ⟨by decide, by decide, ?_, ?_⟩ <;> simp [kg5, NOk, PsOk]
theorem kbound0 : GOk graph0 := by refine ⟨by decide, by decide, ?_, ?_⟩ <;> simp [graph0]
theorem Touch.low {w W W' : World} (h : Touch (fun b => w.heap.size ≤ b) W W') (hb : Below w.heap.size w W) : Below w.heap.size w W' := h.below hb (fun b h1 h2 => by omega) hb.size
def kCells : Array Value := #[.string (strB [107]), .int .i64 2, .bool false, .int .i64 1, .string (strB []), .slice none 0 0, .slice none 0 0]
theorem kcells_rd (W : World) : PRd W ⟨[107], kVal⟩ kCells := ⟨#[.int .i64 2, .bool false, .int .i64 1, .string (strB []), .slice none 0 0, .slice none 0 0], rfl, by simp, VRd_iff.2 ⟨none, 0, none, 0, rfl, by simp, RdS.none W, ⟨Nat.le_refl _, by simp, fun _ => rfl⟩, fun ad had => by cases had⟩⟩
theorem kPsOk : PsOk kProps := ⟨by simp [kProps], fun p hp => by rw [List.mem_singleton.1 hp]; exact ⟨by simp, by simp [kVal, totV, totVs]⟩⟩
theorem run_bs2s (x y : List UInt8) (w : World) : (Instr.buildSlice 26 2 #[(0, .string (strB x)), (1, .string (strB y))]).run Tryz.prog w = .ok (.slice (some ⟨w.heap.size, 0, none⟩) 2 2) (w.alloc (.cells #[.string (strB x), .string (strB y)] 9)) := by
  simp [Instr.buildSlice, go_sem, Instr.fill]
theorem known_any {w : World} (hE : Env w) : Calls Tryz.prog 12 #[] w fun e w' => e = .returned (.bool true) ∧ Below w.heap.size w w' := by
  have hr0 : GrRd w graph0 #[.slice none 0 0, .slice none 0 0, .int .i64 0, .int .i64 0] := ⟨none, 0, none, 0, rfl, GRd.none _ _ _, GRd.none _ _ _⟩
  have HMK := Lib.hid (make_any hE hr0 kbound0)
  have HE := Lib.hid hE
  clear hE hr0
  go_enter Tryz.func12, Tryz.ntmps12
  go_wp2_with (first
    | (go_at_call 14
       (
        refine HMK.out.mono ?_
        rintro e w1 ⟨hb, _, h2⟩
        obtain ⟨B, ma, rfl, hgm⟩ := h2 kok0
        have hg1 : GG (fun b => w.heap.size ≤ b) w1 B graph0 := GG.made kok0 hgm
        have hn2 := below_new (w := w1) (.cells #[.string (strB [66]), .string (strB [65])] 9)
        have hn3 := below_new (w := w1.alloc (.cells #[.string (strB [66]), .string (strB [65])] 9)) (.cells kCells 47)
        have hl3 := RdS.pair (belowBlk hn3 (by simp) (heap_alloc_new w1 (.cells #[.string (strB [66]), .string (strB [65])] 9))) (by decide) (by decide)
        have hx3 := heap_alloc_new (w1.alloc (.cells #[.string (strB [66]), .string (strB [65])] 9)) (.cells kCells 47)
        simp only [World.size_alloc] at hx3
        have hp3 := GRd.single hx3 (kcells_rd _)
        have hb3 := below_trans hb (below_trans hn2 hn3)
        have hc1 := addNode_gg (HE.out.b hb3) (hg1.below (below_trans hn2 hn3)) (fun b h => Nat.le_trans hb3.size h) kok0 (labels := kLabels) hl3 (by decide) (props := kProps) hp3 kPsOk
        rw [kadd1] at hc1
        have HBS2 := Lib.hid (run_bs2s [66] [65] w1)
        have hbs1 := run_buildSlice_one (P := Tryz.prog) (w := w1.alloc (.cells #[.string (strB [66]), .string (strB [65])] 9)) (v := .agg kCells) Tryz.underlying27 Tryz.sizeOf47 Tryz.zeroValue47 rfl (by omega) (by omega)
        simp only [World.size_alloc] at hbs1
        have HBS1 := Lib.hid hbs1
        have HC1 := Lib.hid hc1
        have HB3 := Lib.hid hb3
        clear hb h2 hgm hg1 hn2 hn3 hl3 hx3 hp3 hb3 hc1 HMK hbs1))
    | ((with_reducible apply op_bs2); exact HBS2.out; exact rfl; exact rfl; clear HBS2)
    | ((with_reducible apply op_bs1); exact HBS1.out; exact rfl; clear HBS1)
    | (go_at_call 15
       (
        refine HC1.out.mono ?_
        rintro e w4 ⟨rfl, hg4, hT4⟩
        have hb4 := hT4.low HB3.out
        have hc2 := addNode_gg (HE.out.b hb4) hg4 (fun b h => Nat.le_trans hb4.size h) kok1 (RdS.none w4) (by decide) (GRd.none PRd 7 w4) ⟨by simp, fun p hp => by simp at hp⟩
        rw [kadd2] at hc2
        have HC2 := Lib.hid hc2
        have HB4 := Lib.hid hb4
        clear hg4 hT4 hb4 hc2 HC1))
    | (go_at_call 15
       (
        refine HC2.out.mono ?_
        rintro e w5 ⟨rfl, hg5, hT5⟩
        have hb5 := hT5.low HB4.out
        have hc3 := addRel_any (HE.out.b hb5) hg5 (fun b h => Nat.le_trans hb5.size h) kok2 0 1 (type := [84]) (by decide) (GRd.none PRd 7 w5) ⟨by simp, fun p hp => by simp at hp⟩
        rw [kadd3] at hc3
        have HC3 := Lib.hid hc3
        have HB5 := Lib.hid hb5
        clear hg5 hT5 hb5 hc3 HC2))
    | (go_at_call 37
       (
        refine HC3.out.mono ?_
        rintro e w6 ⟨rfl, hg6, hT6⟩
        have hb6 := hT6.low HB5.out
        have hc4 := addRel_any (HE.out.b hb6) hg6 (fun b h => Nat.le_trans hb6.size h) kok3 0 2 (type := [84]) (by decide) (GRd.none PRd 7 w6) ⟨by simp, fun p hp => by simp at hp⟩
        rw [kadd4] at hc4
        have HC4 := Lib.hid hc4
        have HB6 := Lib.hid hb6
        clear hg6 hT6 hb6 hc4 HC3))
    | (go_at_call 37
       (
        refine HC4.out.mono ?_
        rintro e w7 ⟨rfl, hg7, hT7⟩
        have hb7 := hT7.low HB6.out
        have hc5 := drop_gg hg7 (fun b h => Nat.le_trans hb7.size h) kok3 false 0
        rw [kdrop1] at hc5
        have HC5 := Lib.hid hc5
        have HB7 := Lib.hid hb7
        clear hg7 hT7 hb7 hc5 HC4))
    | (go_at_call 38
       (
        refine HC5.out.mono ?_
        rintro e w8 ⟨rfl, hg8, hT8⟩
        have hb8 := hT8.low HB7.out
        have hc6 := drop_gg hg8 (fun b h => Nat.le_trans hb8.size h) kok3 true 0
        rw [kdrop2] at hc6
        have HC6 := Lib.hid hc6
        have HB8 := Lib.hid hb8
        clear hg8 hT8 hb8 hc6 HC5))
    | (go_at_call 38
       (
        refine HC6.out.mono ?_
        rintro e w9 ⟨rfl, hg9, hT9⟩
        have hb9 := hT9.low HB8.out
        have hc7 := drop_gg hg9 (fun b h => Nat.le_trans hb9.size h) kok4 false 0
        rw [kdrop3] at hc7
        have HC7 := Lib.hid hc7
        have HB9 := Lib.hid hb9
        clear hg9 hT9 hb9 hc7 HC6))
    | (go_at_call 38
       (
        refine HC7.out.mono ?_
        rintro e w10 ⟨rfl, ⟨m10, hg10⟩, hT10⟩
        have hb10 := hT10.low HB9.out
        have hc8 := tellG_any hg10 kbound.2.2.1 kbound.2.2.2 (by decide) (by decide)
        have HC8 := Lib.hid hc8
        have HB10 := Lib.hid hb10
        clear hg10 hT10 hb10 hc8 HC7))
    | (go_at_call 16
       (
        refine HC8.out.mono ?_
        rintro e w11 ⟨x, rfl, hx, hb⟩
        obtain ⟨pn, cn, pr, cr, rfl, _, _⟩ := hx.rdO kbound
        have HFR := Lib.hid (StT.fresh (P := Tryz.prog) (W := w11) st_graph (show (#[.slice pn kg5.nodes.length cn, .slice pr kg5.rels.length cr, .int .i64 kg5.nextNode, .int .i64 kg5.nextRel] : Array Value).size = 4 from rfl) (by simp [Value.oneCell']))
        have hb11 := below_trans HB10.out hb
        have hx12 := heap_alloc_new w11 (.cells #[.slice pn kg5.nodes.length cn, .slice pr kg5.rels.length cr, .int .i64 kg5.nextNode, .int .i64 kg5.nextRel] 25)
        have p0 : (w11.alloc (.cells #[.slice pn kg5.nodes.length cn, .slice pr kg5.rels.length cr, .int .i64 kg5.nextNode, .int .i64 kg5.nextRel] 25)).cell? ⟨w11.heap.size, 0, none⟩ = some (.slice pn 1 cn) := cellOf (o := 0) hx12 rfl
        have p2 : (w11.alloc (.cells #[.slice pn kg5.nodes.length cn, .slice pr kg5.rels.length cr, .int .i64 kg5.nextNode, .int .i64 kg5.nextRel] 25)).cell? ⟨w11.heap.size, 2, none⟩ = some (.int .i64 2) := cellOf (o := 2) hx12 rfl
        have p3 : (w11.alloc (.cells #[.slice pn kg5.nodes.length cn, .slice pr kg5.rels.length cr, .int .i64 kg5.nextNode, .int .i64 kg5.nextRel] 25)).cell? ⟨w11.heap.size, 3, none⟩ = some (.int .i64 1) := cellOf (o := 3) hx12 rfl
        have HB12 := Lib.hid (below_trans hb11 (below_new (w := w11) (.cells #[.slice pn kg5.nodes.length cn, .slice pr kg5.rels.length cr, .int .i64 kg5.nextNode, .int .i64 kg5.nextRel] 25)))
        clear hx hb hb11 hx12 HC8))
    | ((with_reducible apply op_store); exact HFR.out _ rfl; exact rfl; exact rfl; clear HFR))
  go_ret
  exact ⟨rfl, HB12.out⟩
end Go.Proofs.YtihfnegakcghiaaGreatDoor
namespace Go.Proofs.YtihfnegakcghiaaGreatDoor
open Go.RowKit
theorem more_any (l : List UInt8) (i : Nat) (w : World) (hi : i ≤ 140737488355400) (hl : l.length ≤ 140737488355328) : Calls Tryz.prog 186 #[.string (strB l), .int .i64 (i : Int)] w fun e w' => e = .returned (.bool (moreB l i)) ∧ w = w' := by
  have hsz : (strB l).size = l.length := rfl
  have z1 : (l.length : Int) ≤ 140737488355328 := by omega
  by_cases h : i < l.length
  · have hm : moreB l i = (decide (128 ≤ l[i].toNat) && decide (l[i].toNat ≤ 191)) := by unfold moreB; rw [List.getElem?_eq_getElem h]
    rw [hm]
    go_enter Tryz.func186, Tryz.ntmps186
    go_wp2
    · rename_i hx
      have hx' : 128 ≤ (l[i].toNat : Int) := hx
      go_ret
      refine ⟨ret_bool ?_, rfl⟩
      rw [show decide (128 ≤ l[i].toNat) = true by simp; omega, Bool.true_and]
      show decide ((l[i].toNat : Int) ≤ 191) = decide (l[i].toNat ≤ 191)
      rw [Bool.eq_iff_iff, decide_eq_true_iff, decide_eq_true_iff]
      omega
    · rename_i hx
      have hx' : (l[i].toNat : Int) < 128 := hx
      go_ret
      exact ⟨ret_bool (by rw [show decide (128 ≤ l[i].toNat) = false by simp; omega]; rfl), rfl⟩
  · have hm : moreB l i = false := by unfold moreB; rw [List.getElem?_eq_none (by omega)]
    rw [hm]
    go_enter Tryz.func186, Tryz.ntmps186
    go_wp2
    go_ret
    exact ⟨rfl, rfl⟩
theorem more_int (l : List UInt8) (n : Int) (w : World) (h0 : 0 ≤ n) (hi : n ≤ 140737488355400) (hl : l.length ≤ 140737488355328) : Calls Tryz.prog 186 #[.string (strB l), .int .i64 n] w fun e w' => e = .returned (.bool (moreB l n.toNat)) ∧ w = w' := by
  obtain ⟨i, rfl⟩ : ∃ i : Nat, n = (i : Int) := ⟨n.toNat, by omega⟩
  exact more_any l i w (by omega) hl
theorem runeAt_any (l : List UInt8) (i : Nat) (w : World) (hi : i < l.length) (hl : l.length ≤ 140737488355328) : Calls Tryz.prog 137 #[.string (strB l), .int .i64 (i : Int)] w fun e w' => e = .returned (.int .i64 (runeL l i : Int)) ∧ w = w' := by
  have hsz : (strB l).size = l.length := rfl
  have z1 : (l.length : Int) ≤ 140737488355328 := by omega
  have t1 : ((i : Int) + 1).toNat = i + 1 := by omega
  have t2 : ((i : Int) + 2).toNat = i + 2 := by omega
  have t3 : ((i : Int) + 3).toNat = i + 3 := by omega
  have hb : byteN l i = ((strB l)[i]'hi).toNat := by unfold byteN; rw [List.getElem?_eq_getElem hi]; rfl
  cases hm1 : moreB l (i + 1) with
  | false =>
    go_enter Tryz.func137, Tryz.ntmps137
    go_wp2_with (go_at_call 186
                 (
                   refine (more_int _ _ _ (by omega) (by omega) hl).mono ?_
                   rintro e w' ⟨rfl, rfl⟩
                   simp only [t1, t2, t3, hm1]))
    all_goals
      go_ret
      refine ⟨ret_int ?_, rfl⟩
      unfold runeL
      rw [hm1, hb]
      generalize ((strB l)[i]'hi).toNat = c at *
      (repeat' split) <;> first | rfl | omega | (simp only [Bool.and_eq_true, decide_eq_true_eq, Bool.false_eq_true, and_false, false_and, not_false_eq_true, not_true_eq_false] at * <;> omega)
  | true =>
    have hi1 : i + 1 < l.length := by
      unfold moreB at hm1
      split at hm1
      · rename_i x hx
        exact (List.getElem?_eq_some_iff.1 hx).1
      · cases hm1
    have hi1' : (i : Int) + 1 < l.length := by omega
    have hb1 : byteN l (i + 1) = ((strB l)[i + 1]'hi1).toNat := by unfold byteN; rw [List.getElem?_eq_getElem hi1]; rfl
    cases hm2 : moreB l (i + 2) <;> cases hm3 : moreB l (i + 3)
    all_goals
      go_enter Tryz.func137, Tryz.ntmps137
      go_wp2_with (go_at_call 186
                   (
                     refine (more_int _ _ _ (by omega) (by omega) hl).mono ?_
                     rintro e w' ⟨rfl, rfl⟩
                     simp only [t1, t2, t3, hm1, hm2, hm3]))
      all_goals
        go_ret
        refine ⟨ret_int ?_, rfl⟩
        unfold runeL
        rw [hm1, hm2, hb, hb1]
        try rw [hm3]
        generalize ((strB l)[i]'hi).toNat = c at *
        generalize ((strB l)[i + 1]'hi1).toNat = d at *
        (repeat' split) <;> first | rfl | omega | (simp only [Bool.and_eq_true, Bool.or_eq_true, beq_iff_eq, decide_eq_true_eq, Bool.false_eq_true, and_false, false_and, and_true, true_and, not_false_eq_true, not_true_eq_false] at * <;> omega)
end Go.Proofs.YtihfnegakcghiaaGreatDoor
namespace Go.Proofs.YtihfnegakcghiaaGreatDoor
open Go.RowKit
theorem runeL_le (l : List UInt8) (i : Nat) : runeL l i ≤ 4 := by
  unfold runeL
  (repeat' split) <;> omega
theorem valid_step (l : List UInt8) (i : Nat) (h : i < l.length) : Lib.validD (l.drop i) = if runeL l i = 0 then false else Lib.validD (l.drop (i + runeL l i)) := by
  have h1 := utfFrom_valid l (l.length - i) i (Nat.le_refl _)
  obtain ⟨f, hf⟩ : ∃ f, l.length - i = f + 1 := ⟨l.length - i - 1, by omega⟩
  rw [hf] at h1
  rw [← h1]
  unfold utfFrom
  have h' : ¬ l.length ≤ i := by omega
  by_cases h0 : runeL l i = 0
  · simp [h', h0]
  · have h2 := utfFrom_valid l f (i + runeL l i) (by omega)
    simp [h', h0, h2]
theorem valid_end (l : List UInt8) (i : Nat) (h : l.length ≤ i) : Lib.validD (l.drop i) = true := by
  rw [List.drop_eq_nil_of_le h]; rfl
theorem utfR_any (l : List UInt8) (w : World) (hl : l.length ≤ 140737488355328) : Calls Tryz.prog 95 #[.string (strB l)] w fun e w' => e = .returned (.bool (Lib.validD l)) ∧ w = w' := by
  have hsz : (strB l).size = l.length := rfl
  have z1 : (l.length : Int) ≤ 140737488355328 := by omega
  have HL := Lib.hid hl
  go_enter Tryz.func95, Tryz.ntmps95
  go_wp2
  go_loopw [3] (fun i W => ∃ j : Nat, j ≤ l.length + 4 ∧ i = .int .i64 (j : Int) ∧ Hid (Lib.validD l = Lib.validD (l.drop j)) ∧ w = W) (fun i _ => l.length - (intOf i).toNat)
  case atStart => exact ⟨0, by omega, rfl, Lib.hid rfl, rfl⟩
  case round =>
    obtain ⟨j, hj, rfl, HQ, rfl⟩ := hrel
    have zj : (j : Int) ≤ 140737488355332 := by omega
    by_cases hlt : j < l.length
    · have hst := valid_step l j hlt
      have hrl := runeL_le l j
      have HC := Lib.hid (runeAt_any l j w hlt HL.out)
      by_cases h0 : runeL l j = 0
      · rw [if_pos h0] at hst
        rw [h0] at HC
        have HS := Lib.hid hst
        clear hst h0 hrl
        go_wp2_with (go_at_call 137; refine HC.out.mono ?_; rintro e w' ⟨rfl, rfl⟩)
        go_ret
        exact ⟨ret_bool (by rw [HQ.out, HS.out]), rfl⟩
      · rw [if_neg h0] at hst
        generalize runeL l j = r at *
        have HS := Lib.hid (HQ.out.trans hst)
        have hr0 : ¬ (r : Int) = 0 := by omega
        have hr1 : ((r : Int) == 0) = false := by rw [beq_eq_false_iff_ne]; omega
        have zr : (r : Int) ≤ 4 := by omega
        clear hst HQ
        go_wp2_with (go_at_call 137; refine HC.out.mono ?_; rintro e w' ⟨rfl, rfl⟩)
        go_roundw
        case rel => exact ⟨j + r, by omega, by go_num, HS, trivial⟩
        case measure => simp [intOf]; omega
    · have he := valid_end l j (by omega)
      go_wp2
      go_ret
      exact ⟨ret_bool (by rw [HQ.out, he]), rfl⟩
end Go.Proofs.YtihfnegakcghiaaGreatDoor
namespace Go.Proofs.YtihfnegakcghiaaGreatDoor
open Go.RowKit
theorem contains_snoc0 (l : List UInt8) (x : UInt8) : (l ++ [x]).contains 0 = (l.contains 0 || decide (x = 0)) := by
  by_cases h1 : (0 : UInt8) ∈ l
  · simp [h1]
  · by_cases h2 : x = 0
    · simp [h1, h2]
    · have h3 : ¬ (0 : UInt8) = x := fun e => h2 e.symm
      simp [h1, h2, h3]
theorem okNm_zero {s : List UInt8} (h : s.contains 0 = true) : okNm s = false := by unfold okNm; rw [h]; simp
theorem okNm_not {s : List UInt8} (h : s.contains 0 = false) : okNm s = (decide (1 ≤ s.length) && decide (s.length ≤ 64) && Lib.validD s) := by
  unfold okNm
  rw [h]
  cases s with
  | nil => rfl
  | cons a r => simp
theorem refname_any {w : World} (s : List UInt8) (hl : s.length ≤ 140737488355328) : Calls Tryz.prog 35 #[.string (strB s)] w fun e w' => e = .returned (.bool (okNm s)) ∧ w = w' := by
  have hsz : (strB s).size = s.length := rfl
  have z1 : (s.length : Int) ≤ 140737488355328 := by omega
  have HU := Lib.hid (fun W => utfR_any s W hl)
  go_enter Tryz.func35, Tryz.ntmps35
  go_wp2
  go_loopw [3] (fun i W => ∃ j : Nat, j ≤ s.length ∧ i = .int .i64 (j : Int) ∧ Hid ((s.take j).contains 0 = false) ∧ w = W) (fun i _ => s.length - (intOf i).toNat)
  case atStart => exact ⟨0, Nat.zero_le _, rfl, Lib.hid (by simp), rfl⟩
  case round =>
    obtain ⟨j, hj, rfl, HQ, rfl⟩ := hrel
    by_cases hlt : j < s.length
    · have hst : (s.take (j + 1)).contains 0 = ((s.take j).contains 0 || decide (s[j] = 0)) := by rw [List.take_succ_eq_append_getElem hlt, contains_snoc0]
      have hall : s[j] = 0 → s.contains 0 = true := fun e => by
        have := List.getElem_mem hlt
        rw [e] at this
        simpa using this
      have hz : s[j] = 0 ↔ ((strB s)[j]'hlt).toNat = 0 := by
        rw [show (strB s)[j]'hlt = s[j] from rfl]
        constructor
        · intro e; rw [e]; rfl
        · intro e; exact UInt8.toNat_inj.1 e
      generalize s[j] = x at *
      by_cases h0 : x = 0
      · have HF := Lib.hid (okNm_zero (hall h0))
        have hz0 := hz.1 h0
        clear hst hall hz HU
        go_wp2
        go_ret
        exact ⟨ret_bool HF.out.symm, rfl⟩
      · have HN := Lib.hid (show (s.take (j + 1)).contains 0 = false by rw [hst, HQ.out]; simpa using h0)
        have hz0 : ¬ ((strB s)[j]'hlt).toNat = 0 := fun e => h0 (hz.2 e)
        clear hst hall hz HU
        go_wp2
        go_roundw
        case rel => exact ⟨j + 1, by omega, by go_num, HN, trivial⟩
        case measure => simp [intOf]; omega
    · obtain rfl : j = s.length := by omega
      have hok := HQ.out
      rw [List.take_length] at hok
      have hk := okNm_not hok
      clear HQ hok
      by_cases h1 : 1 ≤ s.length
      · by_cases h2 : s.length ≤ 64
        · have HK := Lib.hid (show okNm s = Lib.validD s by rw [hk]; simp [h1, h2])
          have g1 : (1 : Int) ≤ (s.length : Int) := by omega
          have g2 : (s.length : Int) ≤ 64 := by omega
          clear hk
          go_wp2_with (go_at_call 95; refine (HU.out _).mono ?_; rintro e w1 ⟨rfl, rfl⟩)
          go_ret
          exact ⟨ret_bool HK.out.symm, rfl⟩
        · have HK := Lib.hid (show okNm s = false by rw [hk]; simp [h2])
          have g2 : ¬ (s.length : Int) ≤ 64 := by omega
          clear hk HU
          go_wp2
          go_ret
          exact ⟨ret_bool HK.out.symm, rfl⟩
      · have HK := Lib.hid (show okNm s = false by rw [hk]; simp [h1])
        have g1 : ¬ (1 : Int) ≤ (s.length : Int) := by omega
        clear hk HU
        go_wp2
        go_ret
        exact ⟨ret_bool HK.out.symm, rfl⟩
end Go.Proofs.YtihfnegakcghiaaGreatDoor
namespace Go.Proofs.YtihfnegakcghiaaGreatDoor
open Go.RowKit
theorem isE {α : Type} (l : List α) : l.isEmpty = ((l.length : Int) == 0) := by cases l <;> simp <;> omega
theorem bareR_any {v : V} {w : World} {x : Array Value} (hx : VRd w v x) : Calls Tryz.prog 185 #[.agg x] w fun e w' => e = .returned (.bool (bareV v)) ∧ Below w.heap.size w w' := by
  have hT := OneB.start w x
  cases v with
  | mk k b n t ks l =>
    obtain ⟨pk, ck, pl, cl, rfl, htx, hk1, hl1⟩ := VRd_iff.1 hx
    have zt : (strB t).size = t.length := rfl
    have z1 : (ks.length : Int) ≤ 140737488355328 := by have := hk1.1; have := hk1.2.1; omega
    have z2 : (l.length : Int) ≤ 140737488355328 := by have := hl1.1.2.1; omega
    have hb : bareV (.mk k b n t ks l) = ((k == 1 || !b) && (k == 2 || k == 6 || k == 7 || n == 0) && (k == 3 || t.isEmpty) && (k == 5 || ks.isEmpty) && (k == 4 || k == 5 || l.isEmpty)) := rfl
    rw [hb]
    have HT := Lib.hid hT
    clear hx hk1 hl1 hT hb htx
    go_enter Tryz.func185, Tryz.ntmps185
    go_wp2
    all_goals
      go_ret
      refine ⟨ret_bool ?_, below_new _⟩
      try rw [isE ks]
      try rw [isE l]
      simp_all [strB_toList]
end Go.Proofs.YtihfnegakcghiaaGreatDoor
namespace Go.Proofs.YtihfnegakcghiaaGreatDoor
open Go.RowKit
def headV (u : List UInt8 → Bool) (v : V) : Bool :=
  decide (0 ≤ v.kind) && decide (v.kind ≤ 7) && bareV v && (!(v.kind == 6 || v.kind == 7) || decide (0 ≤ v.n)) && u v.text && (!(v.kind == 5) || v.keys.length == v.list.length)
theorem oneV_head (u : List UInt8 → Bool) (v : V) : oneV u v = (headV u v && v.keys.all u && risesB v.keys) := rfl
theorem mayV_head (u : List UInt8 → Bool) (k : Int) (b : Bool) (n : Int) (t : List UInt8) (ks : List (List UInt8)) (l : List V) : mayV u (.mk k b n t ks l) = (headV u (.mk k b n t ks l) && ks.all u && risesB ks && mayVs u l) := by
  rw [mayV, oneV_head]; rfl
theorem mayVs_all (u : List UInt8 → Bool) (l : List V) : mayVs u l = l.all (mayV u) := by
  induction l with
  | nil => rfl
  | cons a r ih => rw [mayVs, ih]; rfl
def KeysOk (l : List (List UInt8)) : Prop := l.all Lib.validD = true ∧ risesB l = true
structure MayNo (l : List V) : Prop where
  no : l.all (mayV Lib.validD) = false
def ValsOk (l : List V) : Prop := l.all (mayV Lib.validD) = true
structure KeyU (w : World) (X : Array Value) (bk o1 o2 : Nat) (s1 s2 : List UInt8) (W : World) : Prop where
  box : OneB w W X
  one : W.cell? ⟨bk, o1, none⟩ = some (.string (strB s1))
  two : W.cell? ⟨bk, o2, none⟩ = some (.string (strB s2))
theorem geq_str (s1 s2 : List UInt8) (W : World) : (binOp .geq 9 (.string (strB s1)) (.string (strB s2))).run Tryz.prog W = .ok (.bool (!(ltB s1 s2))) W := by
  simp [go_sem, strB_toList, less_eq]
theorem mayR_any : ∀ (v : V) (w : World) (x : Array Value), VRd w v x → Calls Tryz.prog 133 #[.agg x] w fun e w' => e = .returned (.bool (mayV Lib.validD v)) ∧ Below w.heap.size w w' := by
  refine V.ind fun k b n t ks l ih => ?_
  intro w x hx
  have HBR := Lib.hid (fun (W : World) (hb : Below w.heap.size w W) => bareR_any (hx.below hb))
  rw [mayV_head, mayVs_all]
  have hT := OneB.start w x
  obtain ⟨pk, ck, pl, cl, rfl, htx, hk1, hl1⟩ := VRd_iff.1 hx
  have z1 : (ks.length : Int) ≤ 140737488355328 := by have := hk1.1; have := hk1.2.1; omega
  have z2 : (l.length : Int) ≤ 140737488355328 := by have := hl1.1.2.1; omega
  have hh : headV Lib.validD (.mk k b n t ks l) = (decide (0 ≤ k) && decide (k ≤ 7) && bareV (.mk k b n t ks l) && (!(k == 6 || k == 7) || decide (0 ≤ n)) && Lib.validD t && (!(k == 5) || ks.length == l.length)) := rfl
  have HU := Lib.hid (fun (W : World) => utfR_any t W htx)
  have HK := Lib.hid (And.intro hk1 (And.intro hl1 ih))
  have HT := Lib.hid hT
  have px0 := cellOf (o := 0) hT.1 rfl; have px1 := cellOf (o := 1) hT.1 rfl; have px2 := cellOf (o := 2) hT.1 rfl; have px3 := cellOf (o := 3) hT.1 rfl; have px4 := cellOf (o := 4) hT.1 rfl; have px5 := cellOf (o := 5) hT.1 rfl
  clear ih hx hk1 hl1 hT htx px0 px1 px2 px3 px4 px5
  generalize bareV (.mk k b n t ks l) = B at *
  generalize Lib.validD t = U at *
  cases hc : headV Lib.validD (.mk k b n t ks l) with
  | false =>
    rw [hc] at hh
    have hh2 : B = true → U = true → (k < 0 ∨ 7 < k ∨ ((k = 6 ∨ k = 7) ∧ n < 0) ∨ (k = 5 ∧ (ks.length : Int) ≠ l.length)) := by
      rintro rfl rfl
      by_cases h : k < 0 ∨ 7 < k ∨ ((k = 6 ∨ k = 7) ∧ n < 0) ∨ (k = 5 ∧ (ks.length : Int) ≠ l.length)
      · exact h
      · have : (decide (0 ≤ k) && decide (k ≤ 7) && true && (!(k == 6 || k == 7) || decide (0 ≤ n)) && true && (!(k == 5) || ks.length == l.length)) = true := by
          simp only [Bool.and_eq_true, decide_eq_true_eq, Bool.or_eq_true, Bool.not_eq_true', Bool.or_eq_false_iff, beq_eq_false_iff_ne, beq_iff_eq]
          exact ⟨⟨⟨⟨⟨by omega, by omega⟩, trivial⟩, by omega⟩, trivial⟩, by omega⟩
        rw [this] at hh
        cases hh
    have HH := Lib.hid hh2
    clear hh hc hh2
    by_cases hlen : (ks.length : Int) = l.length
    all_goals cases B
    all_goals cases U
    all_goals
      go_enter Tryz.func133, Tryz.ntmps133
      go_wp2_with (first
        | (go_at_call 185
           (
             refine (HBR.out _ HT.out.2).mono ?_
             rintro e w1 ⟨rfl, hb⟩
             have hT1 := HT.out.below hb
             have px0 := cellOf (o := 0) hT1.1 rfl; have px1 := cellOf (o := 1) hT1.1 rfl; have px2 := cellOf (o := 2) hT1.1 rfl; have px3 := cellOf (o := 3) hT1.1 rfl; have px4 := cellOf (o := 4) hT1.1 rfl; have px5 := cellOf (o := 5) hT1.1 rfl
             have HT := Lib.hid hT1
             clear hT1 hb))
        | (go_at_call 95; refine (HU.out _).mono ?_; rintro e w' ⟨rfl, rfl⟩))
      all_goals first
        | (go_ret; exact ⟨rfl, HT.out.2⟩)
        | (exfalso; have h := HH.out (by trivial) (by trivial); omega)
  | true =>
    rw [hc] at hh
    have h1 := hh.symm
    simp only [Bool.and_eq_true, decide_eq_true_eq, Bool.or_eq_true, Bool.not_eq_true', Bool.or_eq_false_iff, beq_eq_false_iff_ne, beq_iff_eq] at h1
    obtain ⟨⟨⟨⟨⟨k0, k7⟩, rfl⟩, h67⟩, rfl⟩, h5⟩ := h1
    clear hh hc
    have hcs : (k = 5 ∧ (ks.length : Int) = l.length) ∨ (k = 6 ∧ 0 ≤ n) ∨ (k = 7 ∧ 0 ≤ n) ∨ (0 ≤ k ∧ k ≤ 4) := by omega
    have g0 : ¬ k < 0 := by omega
    have g7 : ¬ 7 < k := by omega
    have hfacts : ((k == 5) = true ∧ (k == 6) = false ∧ (k == 7) = false ∧ ((ks.length : Int) != (l.length : Int)) = false) ∨ ((k == 5) = false ∧ (k == 6) = true ∧ (k == 7) = false ∧ ¬ n < 0) ∨ ((k == 5) = false ∧ (k == 6) = false ∧ (k == 7) = true ∧ ¬ n < 0) ∨ ((k == 5) = false ∧ (k == 6) = false ∧ (k == 7) = false ∧ (0 : Int) ≤ 0) := by
      simp only [beq_iff_eq, beq_eq_false_iff_ne, bne_eq_false_iff_eq]
      omega
    clear h67 h5 k0 k7 hcs
    rcases hfacts with ⟨d5, d6, d7, d8⟩ | ⟨d5, d6, d7, d8⟩ | ⟨d5, d6, d7, d8⟩ | ⟨d5, d6, d7, d8⟩
    all_goals
      go_enter Tryz.func133, Tryz.ntmps133
      go_wp2_with (first
        | (go_at_call 185
           (
             refine (HBR.out _ HT.out.2).mono ?_
             rintro e w1 ⟨rfl, hb⟩
             have hT1 := HT.out.below hb
             have px0 := cellOf (o := 0) hT1.1 rfl; have px1 := cellOf (o := 1) hT1.1 rfl; have px2 := cellOf (o := 2) hT1.1 rfl; have px3 := cellOf (o := 3) hT1.1 rfl; have px4 := cellOf (o := 4) hT1.1 rfl; have px5 := cellOf (o := 5) hT1.1 rfl
             have HT := Lib.hid hT1
             clear hT1 hb))
        | (go_at_call 95; refine (HU.out _).mono ?_; rintro e w' ⟨rfl, rfl⟩))
      clear d5 d6 d7 d8 g0 g7 px0 px1 px2 px3 px4 px5
      have HT0 := HT
      go_loopw [3] (fun i W => ∃ j : Nat, j ≤ ks.length ∧ i = .int .i64 (j : Int) ∧ Hid (KeysOk (ks.take j)) ∧ Hid (OneB w W #[.int .i64 k, .bool b, .int .i64 n, .string (strB t), .slice pk ks.length ck, .slice pl l.length cl])) (fun i _ => ks.length - (intOf i).toNat)
      case atStart => exact ⟨0, Nat.zero_le _, rfl, Lib.hid ⟨rfl, rfl⟩, HT0⟩
      case round =>
        clear HT HT0
        obtain ⟨j, hj, rfl, HQ, HT⟩ := hrel
        have hT1 := HT.out
        have px0 := cellOf (o := 0) hT1.1 rfl; have px1 := cellOf (o := 1) hT1.1 rfl; have px2 := cellOf (o := 2) hT1.1 rfl; have px3 := cellOf (o := 3) hT1.1 rfl; have px4 := cellOf (o := 4) hT1.1 rfl; have px5 := cellOf (o := 5) hT1.1 rfl
        by_cases hlt : j < ks.length
        · have hlt1 : j + 1 ≤ ks.length := hlt
          obtain ⟨bk, ok, rfl, q0, ql⟩ := (HK.out.1.below hT1.2).get hlt
          have hcu := fun (W : World) => utfR_any ks[j] W ql
          have htk : ks.take (j + 1) = ks.take j ++ [ks[j]] := List.take_succ_eq_append_getElem hlt
          have hall : (ks.take (j + 1)).all Lib.validD = Lib.validD ks[j] := by rw [htk, List.all_append, HQ.out.1]; simp
          have hno : Lib.validD ks[j] = false → ks.all Lib.validD = false := fun h => List.all_eq_false.2 ⟨ks[j], List.getElem_mem hlt, by rw [h]; simp⟩
          clear hT1 ql
          go_wp2
          cases hv : Lib.validD ks[j] with
          | false =>
            simp only [hv] at hcu
            have hU : KeyU w #[.int .i64 k, .bool b, .int .i64 n, .string (strB t), .slice (some ⟨bk, ok, none⟩) ks.length ck, .slice pl l.length cl] bk (ok + j) (ok + j) ks[j] ks[j] wr.drew := ⟨HT.out.below (Below.refl _ _).drew, q0, q0⟩
            refine plain_region_draws (fun W => KeyU w #[.int .i64 k, .bool b, .int .i64 n, .string (strB t), .slice (some ⟨bk, ok, none⟩) ks.length ck, .slice pl l.length cl] bk (ok + j) (ok + j) ks[j] ks[j] W) (by kernel_rfl) hU (fun hU => ?_)
            refine tk 0 60 (v := .pointer (some ⟨w.heap.size, 4, none⟩)) rfl rfl (fun W hW => exec_fieldAddr rfl rfl (fa_value _ _ (by decide) W)) ?_
            simp only [Act.put, sA, sZ, sS]
            refine tk 1 61 (v := .slice (some ⟨bk, ok, none⟩) ks.length ck) rfl rfl (fun W hW => exec_load rfl rfl (run_load1 (w := W) Tryz.underlying26 rfl (cellOf hW.box.1 rfl))) ?_
            simp only [Act.put, sA, sZ, sS]
            refine tk 2 62 (v := .int .i64 (j : Int)) rfl rfl (fun W hW => exec_move rfl rfl) ?_
            simp only [Act.put, sA, sZ, sS]
            refine tk 3 63 (v := .pointer (some ⟨bk, ok + j, none⟩)) rfl rfl (fun W hW => exec_indexAddr rfl rfl rfl (ia_keys _ _ _ _ _ hlt W)) ?_
            simp only [Act.put, sA, sZ, sS]
            refine tk 4 64 (v := .string (strB ks[j])) rfl rfl (fun W hW => exec_load rfl rfl (run_load1 (w := W) Tryz.underlying9 rfl hW.two)) ?_
            simp only [Act.put, sA, sZ, sS]
            refine onlyCall 5 65 rfl rfl (by kernel_rfl) rfl (exec_call [.string (strB ks[j])] rfl rfl Tryz.func95 (by kernel_rfl) (by kernel_rfl)) ?_
            refine (hcu _).mono ?_
            rintro e w' ⟨rfl, rfl⟩
            refine ⟨_, rfl, .inr (by assumption), ?_⟩
            simp only [Act.put, sA, sZ, sS]
            refine tk 6 66 (v := .bool true) rfl rfl (fun W hW => exec_unot (b := false) rfl rfl) ?_
            simp only [Act.put, sA, sZ, sS]
            refine tk 7 67 (v := .bool true) rfl rfl (fun W hW => exec_move rfl rfl) ?_
            simp only [Act.put, sA, sZ, sS]
            refine tn 8 68 rfl rfl ?_
            simp only [Act.put, sA, sZ, sS]
            refine tn 9 69 rfl rfl ?_
            simp only [Act.put, sA, sZ, sS]
            refine tn 10 70 rfl rfl ?_
            simp only [Act.put, sA, sZ, sS]
            refine tn 11 71 rfl rfl ?_
            simp only [Act.put, sA, sZ, sS]
            refine tn 12 72 rfl rfl ?_
            simp only [Act.put, sA, sZ, sS]
            refine tn 13 73 rfl rfl ?_
            simp only [Act.put, sA, sZ, sS]
            refine tn 14 74 rfl rfl ?_
            simp only [Act.put, sA, sZ, sS]
            refine tn 15 75 rfl rfl ?_
            simp only [Act.put, sA, sZ, sS]
            refine tn 16 76 rfl rfl ?_
            simp only [Act.put, sA, sZ, sS]
            refine tn 17 77 rfl rfl ?_
            simp only [Act.put, sA, sZ, sS]
            refine tn 18 78 rfl rfl ?_
            simp only [Act.put, sA, sZ, sS]
            refine tn 19 79 rfl rfl ?_
            simp only [Act.put, sA, sZ, sS]
            refine tn 20 80 rfl rfl ?_
            simp only [Act.put, sA, sZ, sS]
            refine tn 21 81 rfl rfl ?_
            simp only [Act.put, sA, sZ, sS]
            refine tn 22 82 rfl rfl ?_
            simp only [Act.put, sA, sZ, sS]
            refine tn 23 83 rfl rfl ?_
            simp only [Act.put, sA, sZ, sS]
            refine tk 24 84 (v := .bool true) rfl rfl (fun W hW => rfl) ?_
            simp only [Act.put, sA, sZ, sS]
            refine done (by kernel_rfl) ?_ _
            go_wp2
            go_ret
            exact ⟨ret_bool (by rw [hno hv]; simp), hU.box.2⟩
          | true =>
            simp only [hv] at hcu
            rw [hv] at hall
            by_cases hj0 : j = 0
            · have hgt : ∀ W : World, (binOp .gtr 3 (.int .i64 (j : Int)) (.int .i64 0)).run Tryz.prog W = .ok (.bool false) W := by
                intro W; simp [go_sem, hj0]
              have hU : KeyU w #[.int .i64 k, .bool b, .int .i64 n, .string (strB t), .slice (some ⟨bk, ok, none⟩) ks.length ck, .slice pl l.length cl] bk (ok + j) (ok + j) ks[j] ks[j] wr.drew := ⟨HT.out.below (Below.refl _ _).drew, q0, q0⟩
              refine plain_region_draws (fun W => KeyU w #[.int .i64 k, .bool b, .int .i64 n, .string (strB t), .slice (some ⟨bk, ok, none⟩) ks.length ck, .slice pl l.length cl] bk (ok + j) (ok + j) ks[j] ks[j] W) (by kernel_rfl) hU (fun hU => ?_)
              refine tk 0 60 (v := .pointer (some ⟨w.heap.size, 4, none⟩)) rfl rfl (fun W hW => exec_fieldAddr rfl rfl (fa_value _ _ (by decide) W)) ?_
              simp only [Act.put, sA, sZ, sS]
              refine tk 1 61 (v := .slice (some ⟨bk, ok, none⟩) ks.length ck) rfl rfl (fun W hW => exec_load rfl rfl (run_load1 (w := W) Tryz.underlying26 rfl (cellOf hW.box.1 rfl))) ?_
              simp only [Act.put, sA, sZ, sS]
              refine tk 2 62 (v := .int .i64 (j : Int)) rfl rfl (fun W hW => exec_move rfl rfl) ?_
              simp only [Act.put, sA, sZ, sS]
              refine tk 3 63 (v := .pointer (some ⟨bk, ok + j, none⟩)) rfl rfl (fun W hW => exec_indexAddr rfl rfl rfl (ia_keys _ _ _ _ _ hlt W)) ?_
              simp only [Act.put, sA, sZ, sS]
              refine tk 4 64 (v := .string (strB ks[j])) rfl rfl (fun W hW => exec_load rfl rfl (run_load1 (w := W) Tryz.underlying9 rfl hW.two)) ?_
              simp only [Act.put, sA, sZ, sS]
              refine onlyCall 5 65 rfl rfl (by kernel_rfl) rfl (exec_call [.string (strB ks[j])] rfl rfl Tryz.func95 (by kernel_rfl) (by kernel_rfl)) ?_
              refine (hcu _).mono ?_
              rintro e w' ⟨rfl, rfl⟩
              refine ⟨_, rfl, .inr (by assumption), ?_⟩
              simp only [Act.put, sA, sZ, sS]
              refine tk 6 66 (v := .bool false) rfl rfl (fun W hW => exec_unot (b := true) rfl rfl) ?_
              simp only [Act.put, sA, sZ, sS]
              refine tk 7 67 (v := .bool false) rfl rfl (fun W hW => exec_move rfl rfl) ?_
              simp only [Act.put, sA, sZ, sS]
              refine tk 8 68 (v := .int .i64 (j : Int)) rfl rfl (fun W hW => exec_move rfl rfl) ?_
              simp only [Act.put, sA, sZ, sS]
              refine tk 9 69 (v := .bool false) rfl rfl (fun W hW => exec_bini rfl rfl rfl (hgt W)) ?_
              simp only [Act.put, sA, sZ, sS]
              refine tk 10 70 (v := .bool false) rfl rfl (fun W hW => exec_move rfl rfl) ?_
              simp only [Act.put, sA, sZ, sS]
              refine tn 11 71 rfl rfl ?_
              simp only [Act.put, sA, sZ, sS]
              refine tn 12 72 rfl rfl ?_
              simp only [Act.put, sA, sZ, sS]
              refine tn 13 73 rfl rfl ?_
              simp only [Act.put, sA, sZ, sS]
              refine tn 14 74 rfl rfl ?_
              simp only [Act.put, sA, sZ, sS]
              refine tn 15 75 rfl rfl ?_
              simp only [Act.put, sA, sZ, sS]
              refine tn 16 76 rfl rfl ?_
              simp only [Act.put, sA, sZ, sS]
              refine tn 17 77 rfl rfl ?_
              simp only [Act.put, sA, sZ, sS]
              refine tn 18 78 rfl rfl ?_
              simp only [Act.put, sA, sZ, sS]
              refine tn 19 79 rfl rfl ?_
              simp only [Act.put, sA, sZ, sS]
              refine tn 20 80 rfl rfl ?_
              simp only [Act.put, sA, sZ, sS]
              refine tn 21 81 rfl rfl ?_
              simp only [Act.put, sA, sZ, sS]
              refine tn 22 82 rfl rfl ?_
              simp only [Act.put, sA, sZ, sS]
              refine tk 23 83 (v := .bool false) rfl rfl (fun W hW => rfl) ?_
              simp only [Act.put, sA, sZ, sS]
              refine tk 24 84 (v := .bool false) rfl rfl (fun W hW => rfl) ?_
              simp only [Act.put, sA, sZ, sS]
              refine done (by kernel_rfl) ?_ _
              have hr : risesB (ks.take (j + 1)) = true := by
                have e : ks.take j = [] := by rw [hj0]; rfl
                rw [htk, e]; rfl
              have HN := Lib.hid (show KeysOk (ks.take (j + 1)) from And.intro hall hr)
              have HT0 := Lib.hid hU.box
              have px4 := cellOf (o := 4) hU.box.1 rfl
              clear hU hcu htk hall hno hr q0 HQ
              go_wp2
              go_roundw
              case rel => exact ⟨j + 1, hlt1, by go_num, HN, HT0⟩
              case measure => simp [intOf]; omega
            · obtain ⟨m, hm⟩ : ∃ m, j = m + 1 := ⟨j - 1, by omega⟩
              have hmn : m < ks.length := by omega
              obtain ⟨bk', ok', hp', q1, _⟩ := (HK.out.1.below HT.out.2).get hmn
              cases hp'
              have hgt : ∀ W : World, (binOp .gtr 3 (.int .i64 (j : Int)) (.int .i64 0)).run Tryz.prog W = .ok (.bool true) W := by
                intro W; simp [go_sem]; omega
              have hsub : ∀ W : World, (binOp .sub 3 (.int .i64 (j : Int)) (.int .i64 1)).run Tryz.prog W = .ok (.int .i64 (m : Int)) W := by
                intro W
                have e : IntKind.i64.wrap ((j : Int) - 1) = m := by simp [IntKind.wrap, IntKind.signed, IntKind.bits]; omega
                simp [go_sem, e]
              have hU : KeyU w #[.int .i64 k, .bool b, .int .i64 n, .string (strB t), .slice (some ⟨bk, ok, none⟩) ks.length ck, .slice pl l.length cl] bk (ok + m) (ok + j) ks[m] ks[j] wr.drew := ⟨HT.out.below (Below.refl _ _).drew, q1, q0⟩
              have hrs : risesB (ks.take (j + 1)) = (risesB (ks.take j) && ltB ks[m] ks[j]) := by
                have h1 := risesB_step (l := ks) (j := m) (by omega)
                have e3 : ks[m + 1]'(by omega) = ks[j] := by simp only [hm]
                rw [show ks.take (j + 1) = ks.take (m + 2) by rw [hm], h1, e3, show ks.take (m + 1) = ks.take j by rw [hm]]
              cases hlb : ltB ks[m] ks[j] with
              | false =>
                have hge : ∀ W : World, (binOp .geq 9 (.string (strB ks[m])) (.string (strB ks[j]))).run Tryz.prog W = .ok (.bool true) W := fun W => by rw [geq_str, hlb]; rfl
                refine plain_region_draws (fun W => KeyU w #[.int .i64 k, .bool b, .int .i64 n, .string (strB t), .slice (some ⟨bk, ok, none⟩) ks.length ck, .slice pl l.length cl] bk (ok + m) (ok + j) ks[m] ks[j] W) (by kernel_rfl) hU (fun hU => ?_)
                refine tk 0 60 (v := .pointer (some ⟨w.heap.size, 4, none⟩)) rfl rfl (fun W hW => exec_fieldAddr rfl rfl (fa_value _ _ (by decide) W)) ?_
                simp only [Act.put, sA, sZ, sS]
                refine tk 1 61 (v := .slice (some ⟨bk, ok, none⟩) ks.length ck) rfl rfl (fun W hW => exec_load rfl rfl (run_load1 (w := W) Tryz.underlying26 rfl (cellOf hW.box.1 rfl))) ?_
                simp only [Act.put, sA, sZ, sS]
                refine tk 2 62 (v := .int .i64 (j : Int)) rfl rfl (fun W hW => exec_move rfl rfl) ?_
                simp only [Act.put, sA, sZ, sS]
                refine tk 3 63 (v := .pointer (some ⟨bk, ok + j, none⟩)) rfl rfl (fun W hW => exec_indexAddr rfl rfl rfl (ia_keys _ _ _ _ _ hlt W)) ?_
                simp only [Act.put, sA, sZ, sS]
                refine tk 4 64 (v := .string (strB ks[j])) rfl rfl (fun W hW => exec_load rfl rfl (run_load1 (w := W) Tryz.underlying9 rfl hW.two)) ?_
                simp only [Act.put, sA, sZ, sS]
                refine onlyCall 5 65 rfl rfl (by kernel_rfl) rfl (exec_call [.string (strB ks[j])] rfl rfl Tryz.func95 (by kernel_rfl) (by kernel_rfl)) ?_
                refine (hcu _).mono ?_
                rintro e w' ⟨rfl, rfl⟩
                refine ⟨_, rfl, .inr (by assumption), ?_⟩
                simp only [Act.put, sA, sZ, sS]
                refine tk 6 66 (v := .bool false) rfl rfl (fun W hW => exec_unot (b := true) rfl rfl) ?_
                simp only [Act.put, sA, sZ, sS]
                refine tk 7 67 (v := .bool false) rfl rfl (fun W hW => exec_move rfl rfl) ?_
                simp only [Act.put, sA, sZ, sS]
                refine tk 8 68 (v := .int .i64 (j : Int)) rfl rfl (fun W hW => exec_move rfl rfl) ?_
                simp only [Act.put, sA, sZ, sS]
                refine tk 9 69 (v := .bool true) rfl rfl (fun W hW => exec_bini rfl rfl rfl (hgt W)) ?_
                simp only [Act.put, sA, sZ, sS]
                refine tk 10 70 (v := .bool true) rfl rfl (fun W hW => exec_move rfl rfl) ?_
                simp only [Act.put, sA, sZ, sS]
                refine tk 11 71 (v := .pointer (some ⟨w.heap.size, 4, none⟩)) rfl rfl (fun W hW => exec_fieldAddr rfl rfl (fa_value _ _ (by decide) W)) ?_
                simp only [Act.put, sA, sZ, sS]
                refine tk 12 72 (v := .slice (some ⟨bk, ok, none⟩) ks.length ck) rfl rfl (fun W hW => exec_load rfl rfl (run_load1 (w := W) Tryz.underlying26 rfl (cellOf hW.box.1 rfl))) ?_
                simp only [Act.put, sA, sZ, sS]
                refine tk 13 73 (v := .int .i64 (j : Int)) rfl rfl (fun W hW => exec_move rfl rfl) ?_
                simp only [Act.put, sA, sZ, sS]
                refine tk 14 74 (v := .int .i64 (m : Int)) rfl rfl (fun W hW => exec_bini rfl rfl rfl (hsub W)) ?_
                simp only [Act.put, sA, sZ, sS]
                refine tk 15 75 (v := .pointer (some ⟨bk, ok + m, none⟩)) rfl rfl (fun W hW => exec_indexAddr rfl rfl rfl (ia_keys _ _ _ _ _ hmn W)) ?_
                simp only [Act.put, sA, sZ, sS]
                refine tk 16 76 (v := .string (strB ks[m])) rfl rfl (fun W hW => exec_load rfl rfl (run_load1 (w := W) Tryz.underlying9 rfl hW.one)) ?_
                simp only [Act.put, sA, sZ, sS]
                refine tk 17 77 (v := .pointer (some ⟨w.heap.size, 4, none⟩)) rfl rfl (fun W hW => exec_fieldAddr rfl rfl (fa_value _ _ (by decide) W)) ?_
                simp only [Act.put, sA, sZ, sS]
                refine tk 18 78 (v := .slice (some ⟨bk, ok, none⟩) ks.length ck) rfl rfl (fun W hW => exec_load rfl rfl (run_load1 (w := W) Tryz.underlying26 rfl (cellOf hW.box.1 rfl))) ?_
                simp only [Act.put, sA, sZ, sS]
                refine tk 19 79 (v := .int .i64 (j : Int)) rfl rfl (fun W hW => exec_move rfl rfl) ?_
                simp only [Act.put, sA, sZ, sS]
                refine tk 20 80 (v := .pointer (some ⟨bk, ok + j, none⟩)) rfl rfl (fun W hW => exec_indexAddr rfl rfl rfl (ia_keys _ _ _ _ _ hlt W)) ?_
                simp only [Act.put, sA, sZ, sS]
                refine tk 21 81 (v := .string (strB ks[j])) rfl rfl (fun W hW => exec_load rfl rfl (run_load1 (w := W) Tryz.underlying9 rfl hW.two)) ?_
                simp only [Act.put, sA, sZ, sS]
                refine tk 22 82 (v := .bool true) rfl rfl (fun W hW => exec_bins rfl rfl rfl (hge W)) ?_
                simp only [Act.put, sA, sZ, sS]
                refine tk 23 83 (v := .bool true) rfl rfl (fun W hW => rfl) ?_
                simp only [Act.put, sA, sZ, sS]
                refine tk 24 84 (v := .bool true) rfl rfl (fun W hW => rfl) ?_
                simp only [Act.put, sA, sZ, sS]
                refine done (by kernel_rfl) ?_ _
                have hrf : risesB ks = false := by
                  cases hrb : risesB ks with
                  | false => rfl
                  | true =>
                    have := risesB_take hrb (j + 1) hlt1
                    rw [hrs, hlb] at this
                    simp at this
                go_wp2
                go_ret
                exact ⟨ret_bool (by rw [hrf]; simp), hU.box.2⟩
              | true =>
                have hge : ∀ W : World, (binOp .geq 9 (.string (strB ks[m])) (.string (strB ks[j]))).run Tryz.prog W = .ok (.bool false) W := fun W => by rw [geq_str, hlb]; rfl
                refine plain_region_draws (fun W => KeyU w #[.int .i64 k, .bool b, .int .i64 n, .string (strB t), .slice (some ⟨bk, ok, none⟩) ks.length ck, .slice pl l.length cl] bk (ok + m) (ok + j) ks[m] ks[j] W) (by kernel_rfl) hU (fun hU => ?_)
                refine tk 0 60 (v := .pointer (some ⟨w.heap.size, 4, none⟩)) rfl rfl (fun W hW => exec_fieldAddr rfl rfl (fa_value _ _ (by decide) W)) ?_
                simp only [Act.put, sA, sZ, sS]
                refine tk 1 61 (v := .slice (some ⟨bk, ok, none⟩) ks.length ck) rfl rfl (fun W hW => exec_load rfl rfl (run_load1 (w := W) Tryz.underlying26 rfl (cellOf hW.box.1 rfl))) ?_
                simp only [Act.put, sA, sZ, sS]
                refine tk 2 62 (v := .int .i64 (j : Int)) rfl rfl (fun W hW => exec_move rfl rfl) ?_
                simp only [Act.put, sA, sZ, sS]
                refine tk 3 63 (v := .pointer (some ⟨bk, ok + j, none⟩)) rfl rfl (fun W hW => exec_indexAddr rfl rfl rfl (ia_keys _ _ _ _ _ hlt W)) ?_
                simp only [Act.put, sA, sZ, sS]
                refine tk 4 64 (v := .string (strB ks[j])) rfl rfl (fun W hW => exec_load rfl rfl (run_load1 (w := W) Tryz.underlying9 rfl hW.two)) ?_
                simp only [Act.put, sA, sZ, sS]
                refine onlyCall 5 65 rfl rfl (by kernel_rfl) rfl (exec_call [.string (strB ks[j])] rfl rfl Tryz.func95 (by kernel_rfl) (by kernel_rfl)) ?_
                refine (hcu _).mono ?_
                rintro e w' ⟨rfl, rfl⟩
                refine ⟨_, rfl, .inr (by assumption), ?_⟩
                simp only [Act.put, sA, sZ, sS]
                refine tk 6 66 (v := .bool false) rfl rfl (fun W hW => exec_unot (b := true) rfl rfl) ?_
                simp only [Act.put, sA, sZ, sS]
                refine tk 7 67 (v := .bool false) rfl rfl (fun W hW => exec_move rfl rfl) ?_
                simp only [Act.put, sA, sZ, sS]
                refine tk 8 68 (v := .int .i64 (j : Int)) rfl rfl (fun W hW => exec_move rfl rfl) ?_
                simp only [Act.put, sA, sZ, sS]
                refine tk 9 69 (v := .bool true) rfl rfl (fun W hW => exec_bini rfl rfl rfl (hgt W)) ?_
                simp only [Act.put, sA, sZ, sS]
                refine tk 10 70 (v := .bool true) rfl rfl (fun W hW => exec_move rfl rfl) ?_
                simp only [Act.put, sA, sZ, sS]
                refine tk 11 71 (v := .pointer (some ⟨w.heap.size, 4, none⟩)) rfl rfl (fun W hW => exec_fieldAddr rfl rfl (fa_value _ _ (by decide) W)) ?_
                simp only [Act.put, sA, sZ, sS]
                refine tk 12 72 (v := .slice (some ⟨bk, ok, none⟩) ks.length ck) rfl rfl (fun W hW => exec_load rfl rfl (run_load1 (w := W) Tryz.underlying26 rfl (cellOf hW.box.1 rfl))) ?_
                simp only [Act.put, sA, sZ, sS]
                refine tk 13 73 (v := .int .i64 (j : Int)) rfl rfl (fun W hW => exec_move rfl rfl) ?_
                simp only [Act.put, sA, sZ, sS]
                refine tk 14 74 (v := .int .i64 (m : Int)) rfl rfl (fun W hW => exec_bini rfl rfl rfl (hsub W)) ?_
                simp only [Act.put, sA, sZ, sS]
                refine tk 15 75 (v := .pointer (some ⟨bk, ok + m, none⟩)) rfl rfl (fun W hW => exec_indexAddr rfl rfl rfl (ia_keys _ _ _ _ _ hmn W)) ?_
                simp only [Act.put, sA, sZ, sS]
                refine tk 16 76 (v := .string (strB ks[m])) rfl rfl (fun W hW => exec_load rfl rfl (run_load1 (w := W) Tryz.underlying9 rfl hW.one)) ?_
                simp only [Act.put, sA, sZ, sS]
                refine tk 17 77 (v := .pointer (some ⟨w.heap.size, 4, none⟩)) rfl rfl (fun W hW => exec_fieldAddr rfl rfl (fa_value _ _ (by decide) W)) ?_
                simp only [Act.put, sA, sZ, sS]
                refine tk 18 78 (v := .slice (some ⟨bk, ok, none⟩) ks.length ck) rfl rfl (fun W hW => exec_load rfl rfl (run_load1 (w := W) Tryz.underlying26 rfl (cellOf hW.box.1 rfl))) ?_
                simp only [Act.put, sA, sZ, sS]
                refine tk 19 79 (v := .int .i64 (j : Int)) rfl rfl (fun W hW => exec_move rfl rfl) ?_
                simp only [Act.put, sA, sZ, sS]
                refine tk 20 80 (v := .pointer (some ⟨bk, ok + j, none⟩)) rfl rfl (fun W hW => exec_indexAddr rfl rfl rfl (ia_keys _ _ _ _ _ hlt W)) ?_
                simp only [Act.put, sA, sZ, sS]
                refine tk 21 81 (v := .string (strB ks[j])) rfl rfl (fun W hW => exec_load rfl rfl (run_load1 (w := W) Tryz.underlying9 rfl hW.two)) ?_
                simp only [Act.put, sA, sZ, sS]
                refine tk 22 82 (v := .bool false) rfl rfl (fun W hW => exec_bins rfl rfl rfl (hge W)) ?_
                simp only [Act.put, sA, sZ, sS]
                refine tk 23 83 (v := .bool false) rfl rfl (fun W hW => rfl) ?_
                simp only [Act.put, sA, sZ, sS]
                refine tk 24 84 (v := .bool false) rfl rfl (fun W hW => rfl) ?_
                simp only [Act.put, sA, sZ, sS]
                refine done (by kernel_rfl) ?_ _
                have hr : risesB (ks.take (j + 1)) = true := by rw [hrs, hlb, HQ.out.2]; rfl
                have HN := Lib.hid (show KeysOk (ks.take (j + 1)) from And.intro hall hr)
                have HT0 := Lib.hid hU.box
                have px4 := cellOf (o := 4) hU.box.1 rfl
                clear hU hcu htk hall hno hr q0 q1 HQ hrs hm hsub hgt hge
                go_wp2
                go_roundw
                case rel => exact ⟨j + 1, hlt1, by go_num, HN, HT0⟩
                case measure => simp [intOf]; omega
        · obtain rfl : j = ks.length := by omega
          have hR := HQ.out
          rw [List.take_length] at hR
          have HR := Lib.hid hR
          have HT0 := HT
          clear hT1 hR HQ
          go_wp2
          go_loopw [4] (fun i W => ∃ j : Nat, j ≤ l.length ∧ i = .int .i64 (j : Int) ∧ Hid (ValsOk (l.take j)) ∧ Hid (OneB w W #[.int .i64 k, .bool b, .int .i64 n, .string (strB t), .slice pk ks.length ck, .slice pl l.length cl])) (fun i _ => l.length - (intOf i).toNat)
          case atStart => exact ⟨0, Nat.zero_le _, rfl, Lib.hid rfl, HT0⟩
          case round =>
            clear HT HT0 px0 px1 px2 px3 px4 px5
            obtain ⟨j, hj, rfl, HQ, HT⟩ := hrel
            have hT1 := HT.out
            have px0 := cellOf (o := 0) hT1.1 rfl; have px1 := cellOf (o := 1) hT1.1 rfl; have px2 := cellOf (o := 2) hT1.1 rfl; have px3 := cellOf (o := 3) hT1.1 rfl; have px4 := cellOf (o := 4) hT1.1 rfl; have px5 := cellOf (o := 5) hT1.1 rfl
            by_cases hlt : j < l.length
            · have hlt1 : j + 1 ≤ l.length := hlt
              obtain ⟨g1, o1, pk1, ck1, pl1, cl1, rfl, ⟨a0, a1, a2, a3, a4, a5⟩, hv1⟩ := (HK.out.2.1.below hT1.2).at hlt
              have hcall := HK.out.2.2 l[j] (List.getElem_mem hlt) _ _ hv1
              have htk : (l.take (j + 1)).all (mayV Lib.validD) = mayV Lib.validD l[j] := by
                have hq : (l.take j).all (mayV Lib.validD) = true := HQ.out
                rw [List.take_succ_eq_append_getElem hlt, List.all_append, hq]; simp
              have hno : mayV Lib.validD l[j] = false → l.all (mayV Lib.validD) = false := fun h => List.all_eq_false.2 ⟨l[j], List.getElem_mem hlt, by rw [h]; simp⟩
              generalize mayV Lib.validD l[j] = on at *
              generalize l[j] = s1 at *
              have hok : on = true → ValsOk (l.take (j + 1)) := fun h => htk.trans h
              have hnok : on = false → l.all (mayV Lib.validD) = false := hno
              cases on with
              | true =>
                have hv := hok rfl
                have HD := Lib.hid (And.intro hcall (And.intro hv hT1))
                clear hcall htk hno hv1 hT1 hok hnok hv
                go_wp2_with (go_at_call 133
                             (
                               refine HD.out.1.mono ?_
                               rintro e w3 ⟨rfl, hb3⟩
                               have HG := Lib.hid (HD.out.2.2.below hb3)
                               clear hb3))
                go_roundw
                case rel => exact ⟨j + 1, hlt1, by go_num, Lib.hid HD.out.2.1, HG⟩
                case measure => simp [intOf]; omega
              | false =>
                have hv := MayNo.mk (hnok rfl)
                have HD := Lib.hid (And.intro hcall (And.intro hv hT1))
                clear hcall htk hno hv1 hT1 hok hnok hv
                go_wp2_with (go_at_call 133
                             (
                               refine HD.out.1.mono ?_
                               rintro e w3 ⟨rfl, hb3⟩
                               have HG := Lib.hid (HD.out.2.2.below hb3)
                               clear hb3))
                go_ret
                exact ⟨ret_bool (by rw [HD.out.2.1.no]; simp), HG.out.2⟩
            · obtain rfl : j = l.length := by omega
              have hQ := HQ.out
              rw [List.take_length] at hQ
              have HQ2 := Lib.hid hQ
              clear hT1 hQ
              go_wp2
              go_ret
              exact ⟨ret_bool (by rw [HR.out.1, HR.out.2, HQ2.out]; rfl), HT.out.2⟩
end Go.Proofs.YtihfnegakcghiaaGreatDoor
namespace Go.Proofs.YtihfnegakcghiaaGreatDoor
open Go.RowKit
theorem countV_mk (k : Int) (b : Bool) (n : Int) (t : List UInt8) (ks : List (List UInt8)) (l : List V) : countV (.mk k b n t ks l) = 1 + countVs l := by rw [countV]
theorem deepV_mk (k : Int) (b : Bool) (n : Int) (t : List UInt8) (ks : List (List UInt8)) (l : List V) : deepV (.mk k b n t ks l) = deepVs l + 1 := by rw [deepV]
theorem bytesV_mk (k : Int) (b : Bool) (n : Int) (t : List UInt8) (ks : List (List UInt8)) (l : List V) : bytesV (.mk k b n t ks l) = t.length + (ks.map List.length).sum + bytesVs l := by rw [bytesV]
theorem longV_mk (k : Int) (b : Bool) (n : Int) (t : List UInt8) (ks : List (List UInt8)) (l : List V) : longV (.mk k b n t ks l) = max l.length (longVs l) := by rw [longV]
theorem countVs_snoc (l : List V) (v : V) : countVs (l ++ [v]) = countVs l + countV v := by
  induction l with
  | nil => simp [countVs]
  | cons a r ih => simp only [List.cons_append, countVs, ih]; omega
theorem deepVs_snoc (l : List V) (v : V) : deepVs (l ++ [v]) = max (deepVs l) (deepV v) := by
  induction l with
  | nil => simp [deepVs]
  | cons a r ih => simp only [List.cons_append, deepVs, ih]; omega
theorem bytesVs_snoc (l : List V) (v : V) : bytesVs (l ++ [v]) = bytesVs l + bytesV v := by
  induction l with
  | nil => simp [bytesVs]
  | cons a r ih => simp only [List.cons_append, bytesVs, ih]; omega
theorem longVs_snoc (l : List V) (v : V) : longVs (l ++ [v]) = max (longVs l) (longV v) := by
  induction l with
  | nil => simp [longVs]
  | cons a r ih => simp only [List.cons_append, longVs, ih]; omega
theorem sizes_tot : ∀ v : V, countV v ≤ totV v ∧ deepV v ≤ totV v ∧ bytesV v ≤ totV v ∧ longV v ≤ totV v := by
  refine V.ind fun k b n t ks l ih => ?_
  have hl : countVs l ≤ totVs l ∧ deepVs l ≤ totVs l ∧ bytesVs l ≤ totVs l ∧ longVs l ≤ totVs l := by
    induction l with
    | nil => simp [countVs, deepVs, bytesVs, longVs]
    | cons a r ihr =>
      have h1 := ih a (by simp)
      have h2 := ihr fun v hv => ih v (by simp [hv])
      simp only [countVs, deepVs, bytesVs, longVs, totVs]
      omega
  have hn := totVs_length l
  rw [countV_mk, deepV_mk, bytesV_mk, longV_mk, totV_mk]
  omega
theorem exec_lenB {a : Act} {w : World} {o : Oper} {x : Operand} {l : List UInt8} (ho : o.op = .call { callee := .builtin .len, args := #[x], argTypes := #[9] }) (hx : a.eval x = .string (strB l)) : (execOp a.eval o).run Tryz.prog w = .ok (.value (.int .i64 (l.length : Int))) w := by
  have e : (strB l).size = l.length := rfl
  unfold execOp; simp only [ho, resolve, invoke, Sem.run_bind, Sem.run_pure, Result.andThen_ok, List.map_toArray, List.map_cons, List.map_nil, hx]; simp [go_sem, e]
theorem keysum_take (ks : List (List UInt8)) (j : Nat) : ((ks.take j).map List.length).sum ≤ (ks.map List.length).sum := by
  have e : ks.take j ++ ks.drop j = ks := List.take_append_drop _ _
  have h := congrArg (fun l => (l.map List.length).sum) e
  simp only [List.map_append, List.sum_append] at h
  omega
theorem totVs_take (l : List V) (j : Nat) : totVs (l.take j) ≤ totVs l := by
  have e : l.take j ++ l.drop j = l := List.take_append_drop _ _
  have := congrArg totVs e
  rw [totVs_append] at this
  omega
theorem sizes_tots (l : List V) : countVs l ≤ totVs l ∧ deepVs l ≤ totVs l ∧ bytesVs l ≤ totVs l ∧ longVs l ≤ totVs l := by
  induction l with
  | nil => simp [countVs, deepVs, bytesVs, longVs]
  | cons a r ihr =>
    have h1 := sizes_tot a
    simp only [countVs, deepVs, bytesVs, longVs, totVs]
    omega
structure SixU (w : World) (X : Array Value) (bl o : Nat) (c0 c1 c2 c3 c4 c5 : Value) (W : World) : Prop where
  box : OneB w W X
  h0 : W.cell? ⟨bl, o, none⟩ = some c0
  h1 : W.cell? ⟨bl, o + 1, none⟩ = some c1
  h2 : W.cell? ⟨bl, o + 2, none⟩ = some c2
  h3 : W.cell? ⟨bl, o + 3, none⟩ = some c3
  h4 : W.cell? ⟨bl, o + 4, none⟩ = some c4
  h5 : W.cell? ⟨bl, o + 5, none⟩ = some c5
theorem SixU.keep {w W W' : World} {X : Array Value} {bl o : Nat} {c0 c1 c2 c3 c4 c5 : Value} (h : SixU w X bl o c0 c1 c2 c3 c4 c5 W) (b : Below W.heap.size W W') : SixU w X bl o c0 c1 c2 c3 c4 c5 W' :=
  ⟨h.box.below b, belowCell b (ltOf h.h0) h.h0, belowCell b (ltOf h.h1) h.h1, belowCell b (ltOf h.h2) h.h2, belowCell b (ltOf h.h3) h.h3, belowCell b (ltOf h.h4) h.h4, belowCell b (ltOf h.h5) h.h5⟩
theorem sizeR_any : ∀ (v : V) (w : World) (x : Array Value), totV v ≤ 1099511627776 → VRd w v x →
    Calls Tryz.prog 32 #[.agg x] w fun e w' => e = .returned (.tuple #[.int .i64 (countV v : Int), .int .i64 (deepV v : Int), .int .i64 (bytesV v : Int), .int .i64 (longV v : Int)]) ∧ Below w.heap.size w w' := by
  refine V.ind fun k b n t ks l ih => ?_
  intro w x htot hx
  rw [totV_mk] at htot
  have hT := OneB.start w x
  obtain ⟨pk, ck, pl, cl, rfl, htx, hk1, hl1⟩ := VRd_iff.1 hx
  have z1 : (ks.length : Int) ≤ 140737488355328 := by have := hk1.1; have := hk1.2.1; omega
  have z2 : (l.length : Int) ≤ 140737488355328 := by have := hl1.1.2.1; omega
  have HK := Lib.hid (And.intro hk1 (And.intro hl1 (And.intro ih htot)))
  rw [countV_mk, deepV_mk, bytesV_mk, longV_mk]
  have hb0 : bytesV (.mk 0 false 0 t [] []) = t.length := by rw [bytesV_mk]; simp [bytesVs]
  have hT0 : OneB w (w.alloc (.cells #[.int .i64 k, .bool b, .int .i64 n, .string (strB t), .slice pk ks.length ck, .slice pl l.length cl] 31)).drew #[.int .i64 k, .bool b, .int .i64 n, .string (strB t), .slice pk ks.length ck, .slice pl l.length cl] := hT.below (Below.refl _ _).drew
  clear ih hx hk1 hl1 hT htx htot hb0
  go_enter Tryz.func32, Tryz.ntmps32
  go_wp2
  refine plain_region_draws (fun W => OneB w W #[.int .i64 k, .bool b, .int .i64 n, .string (strB t), .slice pk ks.length ck, .slice pl l.length cl]) (by kernel_rfl) hT0 (fun hU => ?_)
  refine tk 0 16 (v := .pointer (some ⟨w.heap.size, 3, none⟩)) rfl rfl (fun W hW => exec_fieldAddr rfl rfl (fa_value _ _ (by decide) W)) ?_
  simp only [Act.put, sA, sZ, sS]
  refine tk 1 17 (v := .string (strB t)) rfl rfl (fun W hW => exec_load rfl rfl (run_load1 (w := W) Tryz.underlying9 rfl (cellOf hW.1 rfl))) ?_
  simp only [Act.put, sA, sZ, sS]
  refine tk 2 18 (v := .int .i64 (t.length : Int)) rfl rfl (fun W hW => exec_lenB rfl rfl) ?_
  simp only [Act.put, sA, sZ, sS]
  refine tk 3 19 (v := .pointer (some ⟨w.heap.size, 5, none⟩)) rfl rfl (fun W hW => exec_fieldAddr rfl rfl (fa_value _ _ (by decide) W)) ?_
  simp only [Act.put, sA, sZ, sS]
  refine tk 4 20 (v := .slice pl l.length cl) rfl rfl (fun W hW => exec_load rfl rfl (run_load1 (w := W) Tryz.underlying29 rfl (cellOf hW.1 rfl))) ?_
  simp only [Act.put, sA, sZ, sS]
  refine tk 5 21 (v := .int .i64 (l.length : Int)) rfl rfl (fun W hW => exec_lenV rfl rfl) ?_
  simp only [Act.put, sA, sZ, sS]
  refine tk 6 6 (v := .int .i64 1) rfl rfl (fun W hW => exec_assign rfl rfl) ?_
  simp only [Act.put, sA, sZ, sS]
  refine tk 7 7 (v := .int .i64 0) rfl rfl (fun W hW => exec_assign rfl rfl) ?_
  simp only [Act.put, sA, sZ, sS]
  refine tk 8 8 (v := .int .i64 (t.length : Int)) rfl rfl (fun W hW => exec_assign rfl rfl) ?_
  simp only [Act.put, sA, sZ, sS]
  refine tk 9 9 (v := .int .i64 (l.length : Int)) rfl rfl (fun W hW => exec_assign rfl rfl) ?_
  simp only [Act.put, sA, sZ, sS]
  refine done (by kernel_rfl) ?_ _
  have HT0 := Lib.hid hU
  clear hU hT0
  go_wp2
  go_loopw [8, 10] (fun y i W => ∃ j : Nat, j ≤ ks.length ∧ i = .int .i64 (j : Int) ∧ y = .int .i64 ((t.length + ((ks.take j).map List.length).sum : Nat) : Int) ∧ Hid (OneB w W #[.int .i64 k, .bool b, .int .i64 n, .string (strB t), .slice pk ks.length ck, .slice pl l.length cl])) (fun _ i _ => ks.length - (intOf i).toNat)
  case atStart => exact ⟨0, Nat.zero_le _, rfl, by simp, HT0⟩
  case round =>
    clear HT0
    obtain ⟨j, hj, rfl, rfl, HT⟩ := hrel
    have hT1 := HT.out
    have px0 := cellOf (o := 0) hT1.1 rfl; have px1 := cellOf (o := 1) hT1.1 rfl; have px2 := cellOf (o := 2) hT1.1 rfl; have px3 := cellOf (o := 3) hT1.1 rfl; have px4 := cellOf (o := 4) hT1.1 rfl; have px5 := cellOf (o := 5) hT1.1 rfl
    have hsl := keysum_take ks j
    by_cases hlt : j < ks.length
    · have hlt1 : j + 1 ≤ ks.length := hlt
      obtain ⟨bk, ok, rfl, q0, ql⟩ := (HK.out.1.below hT1.2).get hlt
      have hsum : t.length + ((ks.take (j + 1)).map List.length).sum = t.length + ((ks.take j).map List.length).sum + ks[j].length := by
        rw [List.take_succ_eq_append_getElem hlt, List.map_append, List.sum_append]; simp; omega
      have hsl2 := keysum_take ks (j + 1)
      have z5 : ((t.length + ((ks.take j).map List.length).sum : Nat) : Int) + (ks[j].length : Int) ≤ 1099511627776 := by have := HK.out.2.2.2; omega
      have zs2 : (strB ks[j]).size = ks[j].length := rfl
      have HS := Lib.hid hsum
      generalize t.length + ((ks.take j).map List.length).sum = S at *
      clear hsl hsl2 hsum hT1
      go_wp2
      go_roundw
      case rel => exact ⟨j + 1, hlt1, by go_num, by rw [HS.out]; go_num, HT⟩
      case measure => simp [intOf]; omega
    · obtain rfl : j = ks.length := by omega
      rw [List.take_length]
      have zb : t.length + (ks.map List.length).sum + totVs l ≤ 1099511627776 := by have := HK.out.2.2.2; omega
      have HZB := Lib.hid zb
      generalize hY : t.length + (ks.map List.length).sum = Y at *
      have HY := Lib.hid hY
      have HT0 := HT
      clear hsl hT1 hY zb
      go_wp2
      go_loopw [6, 7, 8, 9, 11] (fun c d y g i W => ∃ j : Nat, j ≤ l.length ∧ i = .int .i64 (j : Int) ∧ c = .int .i64 ((1 + countVs (l.take j) : Nat) : Int) ∧ d = .int .i64 ((deepVs (l.take j) : Nat) : Int) ∧ y = .int .i64 ((Y + bytesVs (l.take j) : Nat) : Int) ∧ g = .int .i64 ((max l.length (longVs (l.take j)) : Nat) : Int) ∧ Hid (OneB w W #[.int .i64 k, .bool b, .int .i64 n, .string (strB t), .slice pk ks.length ck, .slice pl l.length cl])) (fun _ _ _ _ i _ => l.length - (intOf i).toNat)
      case atStart => exact ⟨0, Nat.zero_le _, rfl, by simp [countVs], by simp [deepVs], by simp [bytesVs], by simp [longVs], HT0⟩
      case round =>
        clear HT0 HT
        obtain ⟨j, hj, rfl, rfl, rfl, rfl, rfl, HT⟩ := hrel
        have hT1 := HT.out
        clear px0 px1 px2 px3 px4 px5
        have px0 := cellOf (o := 0) hT1.1 rfl; have px1 := cellOf (o := 1) hT1.1 rfl; have px2 := cellOf (o := 2) hT1.1 rfl; have px3 := cellOf (o := 3) hT1.1 rfl; have px4 := cellOf (o := 4) hT1.1 rfl; have px5 := cellOf (o := 5) hT1.1 rfl
        have hs0 := sizes_tots (l.take j)
        have htl := totVs_take l j
        by_cases hlt : j < l.length
        · have hlt1 : j + 1 ≤ l.length := hlt
          obtain ⟨g1, o1, pk1, ck1, pl1, cl1, rfl, ⟨a0, a1, a2, a3, a4, a5⟩, hv1⟩ := (HK.out.2.1.below hT1.2).at hlt
          have htl2 := totVs_take l (j + 1)
          have hss := sizes_tot l[j]
          have htk : l.take (j + 1) = l.take j ++ [l[j]] := List.take_succ_eq_append_getElem hlt
          rw [htk, totVs_append] at htl2
          have htv : totVs [l[j]] = totV l[j] := by simp [totVs]
          have hcall := HK.out.2.2.1 l[j] (List.getElem_mem hlt)
          have hn1 : countVs (l.take (j + 1)) = countVs (l.take j) + countV l[j] := by rw [htk, countVs_snoc]
          have hn2 : deepVs (l.take (j + 1)) = max (deepVs (l.take j)) (deepV l[j]) := by rw [htk, deepVs_snoc]
          have hn3 : bytesVs (l.take (j + 1)) = bytesVs (l.take j) + bytesV l[j] := by rw [htk, bytesVs_snoc]
          have hn4 : longVs (l.take (j + 1)) = max (longVs (l.take j)) (longV l[j]) := by rw [htk, longVs_snoc]
          have hzb := HZB.out
          have hq1 : 1 + countVs (l.take j) + countV l[j] ≤ 4398046511104 := by omega
          have hq2 : Y + bytesVs (l.take j) + bytesV l[j] ≤ 4398046511104 := by omega
          have HN := Lib.hid (And.intro hn1 (And.intro hn2 (And.intro hn3 hn4)))
          have hcv : totV l[j] ≤ 1099511627776 := by omega
          generalize l[j] = s1 at *
          generalize countVs (l.take j) = C at *
          generalize deepVs (l.take j) = D at *
          generalize bytesVs (l.take j) = B at *
          generalize longVs (l.take j) = G at *
          have hcl := hcall wr _ hcv hv1
          have HD := Lib.hid (And.intro hcl hT1)
          clear hn1 hn2 hn3 hn4 hss htl htl2 htv hs0 hzb hcall hv1 hT1 htk hcl
          go_wp2_with (go_at_call 32
                       (
                         refine HD.out.1.mono ?_
                         rintro e w5 ⟨rfl, hb5⟩
                         have hT5 := HD.out.2.below hb5
                         have HT5 := Lib.hid hT5
                         clear hb5 hT5))
          go_roundw
          case rel => exact ⟨j + 1, hlt1, by go_num, by rw [HN.out.1]; congr 1; omega, by rw [HN.out.2.1]; congr 1; omega, by rw [HN.out.2.2.1]; congr 1; omega, by rw [HN.out.2.2.2]; congr 1; omega, HT5⟩
          case measure => simp [intOf]; omega
        · obtain rfl : j = l.length := by omega
          rw [List.take_length] at *
          have HF := Lib.hid hT1.2
          have hzb := HZB.out
          have hd1 : deepVs l + 1 ≤ 4398046511104 := by omega
          clear hs0 htl hT1 hzb
          go_wp2
          refine bodyPost_ret (v := .tuple #[.int .i64 ((1 + countVs l : Nat) : Int), .int .i64 ((deepVs l + 1 : Nat) : Int), .int .i64 ((Y + bytesVs l : Nat) : Int), .int .i64 ((max l.length (longVs l) : Nat) : Int)]) (by simp [results, Tryz.results32, go_sem]) rfl ⟨by rw [HY.out], HF.out⟩
theorem checkR_any {v : V} {w : World} {x : Array Value} (htot : totV v ≤ 1099511627776) (hx : VRd w v x) : Calls Tryz.prog 83 #[.agg x] w fun e w' => e = .returned (.int .i64 (checkV Lib.validD v)) ∧ Below w.heap.size w w' := by
  have hT := OneB.start w x
  have hmay := mayR_any v _ _ (hx.below hT.2)
  have hsz := fun (W : World) (hb : Below w.heap.size w W) => sizeR_any v W x htot (hx.below hb)
  have hst := sizes_tot v
  obtain ⟨pk, ck, pl, cl, rfl, _⟩ := hx.open
  have HM := Lib.hid hmay
  have HS := Lib.hid hsz
  have HT := Lib.hid hT
  have hc : checkV Lib.validD v = if mayV Lib.validD v then (if 64 < deepV v || 1048576 < bytesV v || 65536 < longV v then 3 else 0) else 110 := rfl
  have z1 : ((deepV v : Nat) : Int) ≤ 1099511627776 := by omega
  have z2 : ((bytesV v : Nat) : Int) ≤ 1099511627776 := by omega
  have z3 : ((longV v : Nat) : Int) ≤ 1099511627776 := by omega
  have HC := Lib.hid hc
  clear hmay hsz hT hx hst htot hc
  generalize checkV Lib.validD v = R at *
  generalize mayV Lib.validD v = M at *
  generalize deepV v = D at *
  generalize bytesV v = B at *
  generalize longV v = G at *
  cases M with
  | false =>
    have hR := HC.out
    have HR := Lib.hid hR
    clear hR
    go_enter Tryz.func83, Tryz.ntmps83
    go_wp2_with (go_at_call 133
                 (
                   refine HM.out.mono ?_
                   rintro e w1 ⟨rfl, hb⟩
                   have HT1 := Lib.hid (HT.out.below hb)
                   clear hb))
    go_ret
    exact ⟨ret_int HR.out.symm, HT1.out.2⟩
  | true =>
    go_enter Tryz.func83, Tryz.ntmps83
    go_wp2_with (first
      | (go_at_call 133
         (
           refine HM.out.mono ?_
           rintro e w1 ⟨rfl, hb⟩
           have HT1 := Lib.hid (HT.out.below hb)
           have HL1 := Lib.hid (get_val HT1.out.1)
           clear hb))
      | (refine wpList_load rfl _ _ _ rfl rfl HL1.out ?_)
      | (go_at_call 32
         (
           refine (HS.out _ HT1.out.2).mono ?_
           rintro e w2 ⟨rfl, hb⟩
           have HB := Lib.hid (below_trans HT1.out.2 hb)
           clear hb)))
    all_goals
      go_ret
      refine ⟨ret_int ?_, HB.out⟩
      have h := HC.out
      rw [if_pos trivial] at h
      rw [h]
      (repeat' split) <;> first | rfl | (simp only [Bool.or_eq_true, decide_eq_true_eq] at * <;> omega)
end Go.Proofs.YtihfnegakcghiaaGreatDoor
namespace Go.Proofs.YtihfnegakcghiaaGreatDoor
open Go.RowKit
structure PairU (w : World) (s1 s2 : V) (g1 o1 g2 o2 : Nat) (c0 c1 c2 c3 c4 c5 d0 d1 d2 d3 d4 d5 : Value) (W : World) : Prop where
  b : Below w.heap.size w W
  h0 : W.cell? ⟨g1, o1, none⟩ = some c0
  h1 : W.cell? ⟨g1, o1 + 1, none⟩ = some c1
  h2 : W.cell? ⟨g1, o1 + 2, none⟩ = some c2
  h3 : W.cell? ⟨g1, o1 + 3, none⟩ = some c3
  h4 : W.cell? ⟨g1, o1 + 4, none⟩ = some c4
  h5 : W.cell? ⟨g1, o1 + 5, none⟩ = some c5
  q0 : W.cell? ⟨g2, o2, none⟩ = some d0
  q1 : W.cell? ⟨g2, o2 + 1, none⟩ = some d1
  q2 : W.cell? ⟨g2, o2 + 2, none⟩ = some d2
  q3 : W.cell? ⟨g2, o2 + 3, none⟩ = some d3
  q4 : W.cell? ⟨g2, o2 + 4, none⟩ = some d4
  q5 : W.cell? ⟨g2, o2 + 5, none⟩ = some d5
  r1 : VRd W s1 #[c0, c1, c2, c3, c4, c5]
  r2 : VRd W s2 #[d0, d1, d2, d3, d4, d5]
theorem PairU.keep {w W W' : World} {s1 s2 : V} {g1 o1 g2 o2 : Nat} {c0 c1 c2 c3 c4 c5 d0 d1 d2 d3 d4 d5 : Value} (h : PairU w s1 s2 g1 o1 g2 o2 c0 c1 c2 c3 c4 c5 d0 d1 d2 d3 d4 d5 W) (b : Below W.heap.size W W') : PairU w s1 s2 g1 o1 g2 o2 c0 c1 c2 c3 c4 c5 d0 d1 d2 d3 d4 d5 W' :=
  ⟨below_trans h.b b, belowCell b (ltOf h.h0) h.h0, belowCell b (ltOf h.h1) h.h1, belowCell b (ltOf h.h2) h.h2, belowCell b (ltOf h.h3) h.h3, belowCell b (ltOf h.h4) h.h4, belowCell b (ltOf h.h5) h.h5,
   belowCell b (ltOf h.q0) h.q0, belowCell b (ltOf h.q1) h.q1, belowCell b (ltOf h.q2) h.q2, belowCell b (ltOf h.q3) h.q3, belowCell b (ltOf h.q4) h.q4, belowCell b (ltOf h.q5) h.q5, h.r1.below b, h.r2.below b⟩
structure KeyTwo (w : World) (X Y : Array Value) (b1 o1 b2 o2 : Nat) (s1 s2 : List UInt8) (W : World) : Prop where
  two : TwoV w W X Y
  one : W.cell? ⟨b1, o1, none⟩ = some (.string (strB s1))
  sec : W.cell? ⟨b2, o2, none⟩ = some (.string (strB s2))
theorem KeyTwo.keep {w W W' : World} {X Y : Array Value} {b1 o1 b2 o2 : Nat} {s1 s2 : List UInt8} (h : KeyTwo w X Y b1 o1 b2 o2 s1 s2 W) (b : Below W.heap.size W W') : KeyTwo w X Y b1 o1 b2 o2 s1 s2 W' :=
  ⟨h.two.below b, belowCell b (ltOf h.one) h.one, belowCell b (ltOf h.sec) h.sec⟩
end Go.Proofs.YtihfnegakcghiaaGreatDoor
namespace Go.Proofs.YtihfnegakcghiaaGreatDoor
open Go.RowKit
structure AlU (w : World) (X Y : Array Value) (s1 : V) (g1 o1 g2 o2 : Nat) (c0 c1 c2 c3 c4 c5 d0 d1 d2 d3 d4 d5 : Value) (W : World) : Prop where
  two : TwoV w W X Y
  p : PairU w s1 s1 g1 o1 g2 o2 c0 c1 c2 c3 c4 c5 d0 d1 d2 d3 d4 d5 W
theorem AlU.keep {w W W' : World} {X Y : Array Value} {s1 : V} {g1 o1 g2 o2 : Nat} {c0 c1 c2 c3 c4 c5 d0 d1 d2 d3 d4 d5 : Value} (h : AlU w X Y s1 g1 o1 g2 o2 c0 c1 c2 c3 c4 c5 d0 d1 d2 d3 d4 d5 W) (b : Below W.heap.size W W') : AlU w X Y s1 g1 o1 g2 o2 c0 c1 c2 c3 c4 c5 d0 d1 d2 d3 d4 d5 W' := ⟨h.two.below b, h.p.keep b⟩
end Go.Proofs.YtihfnegakcghiaaGreatDoor
namespace Go.Proofs.YtihfnegakcghiaaGreatDoor
open Go.RowKit
structure StoU (w : World) (X : Array Value) (g o q : Nat) (kj k0 : Int) (W : World) : Prop where
  one : OneB w W X
  kj : W.cell? ⟨g, q, none⟩ = some (.int .i64 kj)
  k0 : W.cell? ⟨g, o, none⟩ = some (.int .i64 k0)
def SameK (l : List V) (j : Nat) : Prop := ∀ i v u, i < j → l[i]? = some v → l[0]? = some u → v.kind = u.kind
theorem badB_eq (k k0 : Int) : badB k k0 = true ↔ k ≠ k0 ∨ k < 1 ∨ 3 < k := by unfold badB; simp [Bool.or_eq_true, or_assoc]
theorem storL_bad {l : List V} {i : Nat} {v u : V} (h : l[i]? = some v) (h0 : l[0]? = some u) (hk : v.kind ≠ u.kind) : storL l = false := by
  unfold storL
  rw [List.all_eq_false]
  refine ⟨v, List.mem_of_getElem? h, ?_⟩
  have e : (l.map V.kind).headD 0 = u.kind := by cases l with
    | nil => simp at h0
    | cons a r => simp only [List.getElem?_cons_zero, Option.some.injEq] at h0; subst h0; rfl
  rw [e, (badB_eq _ _).2 (.inl hk)]; simp
theorem storL_same {l : List V} {u : V} (h0 : l[0]? = some u) (hs : SameK l l.length) : storL l = (decide (1 ≤ u.kind) && decide (u.kind ≤ 3)) := by
  have e : (l.map V.kind).headD 0 = u.kind := by cases l with
    | nil => simp at h0
    | cons a r => simp only [List.getElem?_cons_zero, Option.some.injEq] at h0; subst h0; rfl
  have hall : ∀ x ∈ l, x.kind = u.kind := fun x hx => by
    obtain ⟨i, hi, rfl⟩ := List.getElem_of_mem hx
    exact hs i _ _ hi (List.getElem?_eq_getElem hi) h0
  unfold storL
  rw [e, Bool.eq_iff_iff, List.all_eq_true]
  simp only [Bool.and_eq_true, decide_eq_true_eq, Bool.not_eq_true']
  constructor
  · intro h
    have := h u (List.mem_of_getElem? h0)
    have hb : (u.kind ≠ u.kind ∨ u.kind < 1 ∨ 3 < u.kind) → False := fun hh => by rw [(badB_eq u.kind u.kind).2 hh] at this; cases this
    constructor
    · by_cases h1 : u.kind < 1
      · exact (hb (.inr (.inl h1))).elim
      · omega
    · by_cases h1 : 3 < u.kind
      · exact (hb (.inr (.inr h1))).elim
      · omega
  · rintro ⟨h1, h2⟩ x hx
    rw [hall x hx]
    cases hb : badB u.kind u.kind with
    | false => rfl
    | true => rcases (badB_eq _ _).1 hb with h | h | h <;> omega
theorem storL_one (v : V) : storL [v] = (decide (1 ≤ v.kind) && decide (v.kind ≤ 3)) := storL_same (u := v) rfl (fun i x u hi h h0 => by
  have : i = 0 := by simpa using hi
  subst this; rw [h] at h0; cases h0; rfl)
theorem kinds3 (k : Int) : ((k == 1) = true ∧ (decide (1 ≤ k) && decide (k ≤ 3)) = true) ∨ ((k == 1) = false ∧ (k == 2) = true ∧ (decide (1 ≤ k) && decide (k ≤ 3)) = true) ∨ ((k == 1) = false ∧ (k == 2) = false ∧ (k == 3) = true ∧ (decide (1 ≤ k) && decide (k ≤ 3)) = true) ∨ ((k == 1) = false ∧ (k == 2) = false ∧ (k == 3) = false ∧ (decide (1 ≤ k) && decide (k ≤ 3)) = false) := by
  by_cases h1 : k = 1
  · subst h1; exact .inl ⟨rfl, rfl⟩
  · by_cases h2 : k = 2
    · subst h2; exact .inr (.inl ⟨rfl, rfl, rfl⟩)
    · by_cases h3 : k = 3
      · subst h3; exact .inr (.inr (.inl ⟨rfl, rfl, rfl, rfl⟩))
      · refine .inr (.inr (.inr ⟨by simpa using h1, by simpa using h2, by simpa using h3, ?_⟩))
        rw [Bool.and_eq_false_iff, decide_eq_false_iff_not, decide_eq_false_iff_not]; omega
theorem storR_any {v : V} {w : World} {x : Array Value} (hx : VRd w v x) (ho : okV v = true) :
    Calls Tryz.prog 136 #[.agg x] w fun e w' => e = .returned (.bool (storB v)) ∧ Below w.heap.size w w' := by
  obtain ⟨pk, ck, pl, cl, rfl, htx, hk1, hl1⟩ := hx.open
  have hF := oneV_iff.1 (mayV_iff.1 (okV_may ho)).1
  have hls : v.kind ≠ 4 → v.kind ≠ 5 → v.list = [] := hF.list
  have hR : storB v = storL (if v.kind = 4 then v.list else [v]) := rfl
  have hbad : ∀ (i : Nat) (s u : V), v.list[i]? = some s → v.list[0]? = some u → s.kind ≠ u.kind → storB v = false := by
    intro i s u h h0 hne
    by_cases h4 : v.kind = 4
    · rw [hR, if_pos h4]; exact storL_bad h h0 hne
    · by_cases h5 : v.kind = 5
      · rw [hR, if_neg h4, storL_one, h5]; rfl
      · rw [hls h4 h5] at h; simp at h
  have hend : SameK v.list v.list.length → storB v = if v.kind = 4 then (match v.list[0]? with | some u => decide (1 ≤ u.kind) && decide (u.kind ≤ 3) | none => true) else (decide (1 ≤ v.kind) && decide (v.kind ≤ 3)) := by
    intro hs
    by_cases h4 : v.kind = 4
    · rw [hR, if_pos h4, if_pos h4]
      cases h0 : v.list[0]? with
      | none =>
        have : v.list = [] := by cases hv : v.list with
          | nil => rfl
          | cons a r => rw [hv] at h0; simp at h0
        rw [this]; rfl
      | some u => exact storL_same h0 hs
    · rw [hR, if_neg h4, if_neg h4, storL_one]
  generalize storB v = R at *
  have hT := OneB.start w #[.int .i64 v.kind, .bool v.b, .int .i64 v.n, .string (strB v.text), .slice pk v.keys.length ck, .slice pl v.list.length cl]
  have z1 : (v.list.length : Int) ≤ 140737488355328 := by have := hl1.1.2.1; omega
  have px0 := cellOf (o := 0) hT.1 rfl; have px5 := cellOf (o := 5) hT.1 rfl
  have HT := Lib.hid hT
  have HL := Lib.hid hl1
  have HB := Lib.hid hbad
  have HE := Lib.hid hend
  clear hx hk1 hl1 hT hbad hend hR hls hF ho
  go_enter Tryz.func136, Tryz.ntmps136
  go_wp2
  clear px0 px5
  go_loopw [3] (fun i W => ∃ j : Nat, j ≤ v.list.length ∧ i = .int .i64 (j : Int) ∧ Hid (SameK v.list j ∧ OneB w W #[.int .i64 v.kind, .bool v.b, .int .i64 v.n, .string (strB v.text), .slice pk v.keys.length ck, .slice pl v.list.length cl])) (fun i _ => v.list.length - (intOf i).toNat)
  case atStart => exact ⟨0, Nat.zero_le _, rfl, Lib.hid ⟨fun i _ _ hi => by omega, HT.out⟩⟩
  case round =>
    clear HT
    obtain ⟨j, hj, rfl, HJ⟩ := hrel
    have hT1 := HJ.out.2
    have px0 := cellOf (o := 0) hT1.1 rfl; have px5 := cellOf (o := 5) hT1.1 rfl
    by_cases hlt : j < v.list.length
    · have hlt1 : j + 1 ≤ v.list.length := hlt
      have hpos : 0 < v.list.length := by omega
      have hbd : Below w.heap.size w wr.drew := below_trans hT1.2 (Below.refl _ _).drew
      obtain ⟨g1, o1, pk1, ck1, pl1, cl1, rfl, ⟨a0, _⟩, _⟩ := (HL.out.below hbd).at hlt
      obtain ⟨g2, o2, pk2, ck2, pl2, cl2, e2, ⟨q0, _⟩, _⟩ := (HL.out.below hbd).at hpos
      cases e2
      have hsj : v.list[j]? = some v.list[j] := List.getElem?_eq_getElem hlt
      have hs0 : v.list[0]? = some v.list[0] := List.getElem?_eq_getElem hpos
      rw [Nat.zero_mul, Nat.add_zero] at q0
      have hstep : v.list[j].kind = v.list[0].kind → SameK v.list (j + 1) := fun e i s u hi h h0 => by
        by_cases hij : i = j
        · subst hij; rw [hsj] at h; rw [hs0] at h0; cases h; cases h0; exact e
        · exact HJ.out.1 i s u (by omega) h h0
      have hbad2 : v.list[j].kind ≠ v.list[0].kind → R = false := HB.out j _ _ hsj hs0
      generalize v.list[j].kind = kj at *
      generalize v.list[0].kind = k0 at *
      have hU0 : StoU w #[.int .i64 v.kind, .bool v.b, .int .i64 v.n, .string (strB v.text), .slice pk v.keys.length ck, .slice (some ⟨g1, o1, none⟩) v.list.length cl] g1 o1 (o1 + j * 6) kj k0 wr.drew := ⟨hT1.below (Below.refl _ _).drew, a0, q0⟩
      clear a0 q0 hsj hs0 hbd hT1
      by_cases e : kj = k0
      · have HS := Lib.hid (hstep e)
        have hne : ∀ W, (binOp .neq 28 (.int .i64 kj) (.int .i64 k0)).run Tryz.prog W = .ok (.bool false) W := fun W => by simp [go_sem, e]
        clear hstep hbad2 e HJ
        go_wp2
        refine plain_region_draws (fun W => StoU w #[.int .i64 v.kind, .bool v.b, .int .i64 v.n, .string (strB v.text), .slice pk v.keys.length ck, .slice (some ⟨g1, o1, none⟩) v.list.length cl] g1 o1 (o1 + j * 6) kj k0 W) (by kernel_rfl) hU0 (fun hU => ?_)
        refine tk 0 12 (v := .pointer (some ⟨w.heap.size, 5, none⟩)) rfl rfl (fun W hW => exec_fieldAddr rfl rfl (fa_value _ _ (by decide) W)) ?_
        simp only [Act.put, sA, sZ, sS]
        refine tk 1 13 (v := .slice (some ⟨g1, o1, none⟩) v.list.length cl) rfl rfl (fun W hW => exec_load rfl rfl (run_load1 (w := W) Tryz.underlying29 rfl (cellOf hW.one.1 rfl))) ?_
        simp only [Act.put, sA, sZ, sS]
        refine tk 2 14 (v := .int .i64 (j : Int)) rfl rfl (fun W hW => exec_move rfl rfl) ?_
        simp only [Act.put, sA, sZ, sS]
        refine tk 3 15 (v := .pointer (some ⟨g1, o1 + j * 6, none⟩)) rfl rfl (fun W hW => exec_indexAddr rfl rfl rfl (ia_vals _ _ _ _ _ hlt W)) ?_
        simp only [Act.put, sA, sZ, sS]
        refine tk 4 16 (v := .pointer (some ⟨g1, o1 + j * 6, none⟩)) rfl rfl (fun W hW => exec_fieldAddr rfl rfl (fa_first _ _ W)) ?_
        simp only [Act.put, sA, sZ, sS]
        refine tk 5 17 (v := .int .i64 kj) rfl rfl (fun W hW => exec_load rfl rfl (run_load1 (w := W) Tryz.underlying28 rfl hW.kj)) ?_
        simp only [Act.put, sA, sZ, sS]
        refine tk 6 18 (v := .pointer (some ⟨w.heap.size, 5, none⟩)) rfl rfl (fun W hW => exec_fieldAddr rfl rfl (fa_value _ _ (by decide) W)) ?_
        simp only [Act.put, sA, sZ, sS]
        refine tk 7 19 (v := .slice (some ⟨g1, o1, none⟩) v.list.length cl) rfl rfl (fun W hW => exec_load rfl rfl (run_load1 (w := W) Tryz.underlying29 rfl (cellOf hW.one.1 rfl))) ?_
        simp only [Act.put, sA, sZ, sS]
        refine tk 8 20 (v := .pointer (some ⟨g1, o1, none⟩)) rfl rfl (fun W hW => exec_indexAddr rfl rfl rfl (ia_first _ _ _ _ hpos W)) ?_
        simp only [Act.put, sA, sZ, sS]
        refine tk 9 21 (v := .pointer (some ⟨g1, o1, none⟩)) rfl rfl (fun W hW => exec_fieldAddr rfl rfl (fa_first _ _ W)) ?_
        simp only [Act.put, sA, sZ, sS]
        refine tk 10 22 (v := .int .i64 k0) rfl rfl (fun W hW => exec_load rfl rfl (run_load1 (w := W) Tryz.underlying28 rfl hW.k0)) ?_
        simp only [Act.put, sA, sZ, sS]
        refine tk 11 23 (v := .bool false) rfl rfl (fun W hW => exec_bini rfl rfl rfl (hne W)) ?_
        simp only [Act.put, sA, sZ, sS]
        refine done (by kernel_rfl) ?_ _
        have HT0 := Lib.hid (And.intro HS.out hU.one)
        clear hU hU0 hne HS px0 px5
        go_wp2
        go_roundw
        case rel => exact ⟨j + 1, by omega, by go_num, HT0⟩
        case measure => simp [intOf]; omega
      · have HR := Lib.hid (hbad2 e)
        have hne : ∀ W, (binOp .neq 28 (.int .i64 kj) (.int .i64 k0)).run Tryz.prog W = .ok (.bool true) W := fun W => by simp [go_sem, e]
        clear hstep hbad2 e HJ
        go_wp2
        refine plain_region_draws (fun W => StoU w #[.int .i64 v.kind, .bool v.b, .int .i64 v.n, .string (strB v.text), .slice pk v.keys.length ck, .slice (some ⟨g1, o1, none⟩) v.list.length cl] g1 o1 (o1 + j * 6) kj k0 W) (by kernel_rfl) hU0 (fun hU => ?_)
        refine tk 0 12 (v := .pointer (some ⟨w.heap.size, 5, none⟩)) rfl rfl (fun W hW => exec_fieldAddr rfl rfl (fa_value _ _ (by decide) W)) ?_
        simp only [Act.put, sA, sZ, sS]
        refine tk 1 13 (v := .slice (some ⟨g1, o1, none⟩) v.list.length cl) rfl rfl (fun W hW => exec_load rfl rfl (run_load1 (w := W) Tryz.underlying29 rfl (cellOf hW.one.1 rfl))) ?_
        simp only [Act.put, sA, sZ, sS]
        refine tk 2 14 (v := .int .i64 (j : Int)) rfl rfl (fun W hW => exec_move rfl rfl) ?_
        simp only [Act.put, sA, sZ, sS]
        refine tk 3 15 (v := .pointer (some ⟨g1, o1 + j * 6, none⟩)) rfl rfl (fun W hW => exec_indexAddr rfl rfl rfl (ia_vals _ _ _ _ _ hlt W)) ?_
        simp only [Act.put, sA, sZ, sS]
        refine tk 4 16 (v := .pointer (some ⟨g1, o1 + j * 6, none⟩)) rfl rfl (fun W hW => exec_fieldAddr rfl rfl (fa_first _ _ W)) ?_
        simp only [Act.put, sA, sZ, sS]
        refine tk 5 17 (v := .int .i64 kj) rfl rfl (fun W hW => exec_load rfl rfl (run_load1 (w := W) Tryz.underlying28 rfl hW.kj)) ?_
        simp only [Act.put, sA, sZ, sS]
        refine tk 6 18 (v := .pointer (some ⟨w.heap.size, 5, none⟩)) rfl rfl (fun W hW => exec_fieldAddr rfl rfl (fa_value _ _ (by decide) W)) ?_
        simp only [Act.put, sA, sZ, sS]
        refine tk 7 19 (v := .slice (some ⟨g1, o1, none⟩) v.list.length cl) rfl rfl (fun W hW => exec_load rfl rfl (run_load1 (w := W) Tryz.underlying29 rfl (cellOf hW.one.1 rfl))) ?_
        simp only [Act.put, sA, sZ, sS]
        refine tk 8 20 (v := .pointer (some ⟨g1, o1, none⟩)) rfl rfl (fun W hW => exec_indexAddr rfl rfl rfl (ia_first _ _ _ _ hpos W)) ?_
        simp only [Act.put, sA, sZ, sS]
        refine tk 9 21 (v := .pointer (some ⟨g1, o1, none⟩)) rfl rfl (fun W hW => exec_fieldAddr rfl rfl (fa_first _ _ W)) ?_
        simp only [Act.put, sA, sZ, sS]
        refine tk 10 22 (v := .int .i64 k0) rfl rfl (fun W hW => exec_load rfl rfl (run_load1 (w := W) Tryz.underlying28 rfl hW.k0)) ?_
        simp only [Act.put, sA, sZ, sS]
        refine tk 11 23 (v := .bool true) rfl rfl (fun W hW => exec_bini rfl rfl rfl (hne W)) ?_
        simp only [Act.put, sA, sZ, sS]
        refine done (by kernel_rfl) ?_ _
        have HF := Lib.hid hU.one.2
        clear hU hU0 hne px0 px5
        go_wp2
        go_ret
        exact ⟨ret_bool HR.out.symm, HF.out⟩
    · obtain rfl : j = v.list.length := by omega
      have HF := Lib.hid hT1.2
      have hE := HE.out HJ.out.1
      by_cases h4 : v.kind = 4
      · rw [if_pos h4] at hE
        have d4 : (v.kind == 4) = true := by simpa using h4
        by_cases hpos : 0 < v.list.length
        · obtain ⟨g2, o2, pk2, ck2, pl2, cl2, rfl, ⟨q0, _⟩, _⟩ := (HL.out.below hT1.2).at hpos
          rw [List.getElem?_eq_getElem hpos] at hE
          simp only at hE
          rw [Nat.zero_mul, Nat.add_zero] at q0
          have d5 : decide ((0 : Int) < (v.list.length : Int)) = true := by rw [decide_eq_true_iff]; omega
          have d6 : decide (0 < v.list.length) = true := by rw [decide_eq_true_iff]; omega
          generalize v.list[0].kind = k0 at *
          have hk := kinds3 k0
          generalize (decide (1 ≤ k0) && decide (k0 ≤ 3)) = B at *
          have HR := Lib.hid hE
          clear hE hT1 h4 HJ HE HB HL
          rcases hk with ⟨k1, hB⟩ | ⟨k1, k2, hB⟩ | ⟨k1, k2, k3, hB⟩ | ⟨k1, k2, k3, hB⟩
          all_goals
            have HB2 := Lib.hid (HR.out.trans hB)
            clear hB HR
            go_wp2
            go_ret
            exact ⟨ret_bool HB2.out.symm, HF.out⟩
        · have hnil : v.list = [] := List.eq_nil_of_length_eq_zero (by omega)
          have d5 : decide ((0 : Int) < (v.list.length : Int)) = false := by rw [decide_eq_false_iff_not]; omega
          have d6 : decide (0 < v.list.length) = false := by rw [decide_eq_false_iff_not]; omega
          have hE2 : R = true := by rw [hE, hnil]; rfl
          have HR := Lib.hid hE2
          clear hE hE2 hT1 h4 HJ HE HB HL hnil
          go_wp2
          go_ret
          exact ⟨ret_bool HR.out.symm, HF.out⟩
      · rw [if_neg h4] at hE
        have d4 : (v.kind == 4) = false := by simpa using h4
        generalize v.kind = k0 at *
        have hk := kinds3 k0
        generalize (decide (1 ≤ k0) && decide (k0 ≤ 3)) = B at *
        have HR := Lib.hid hE
        clear hE hT1 h4 HJ HE HB HL
        rcases hk with ⟨k1, hB⟩ | ⟨k1, k2, hB⟩ | ⟨k1, k2, k3, hB⟩ | ⟨k1, k2, k3, hB⟩
        all_goals
          have HB2 := Lib.hid (HR.out.trans hB)
          clear hB HR
          go_wp2
          go_ret
          exact ⟨ret_bool HB2.out.symm, HF.out⟩
end Go.Proofs.YtihfnegakcghiaaGreatDoor
namespace Go.Proofs.YtihfnegakcghiaaGreatDoor
open Go.RowKit
theorem geq_zero (n : Int) (W : World) : (binOp .geq 3 (.int .i64 n) (.int .i64 0)).run Tryz.prog W = .ok (.bool (decide (0 ≤ n))) W := by simp [go_sem]
theorem cmp_geq (a b : List UInt8) : decide (0 ≤ cmpB a b) = !(ltB a b) := by
  rcases cmpB_cases a b with ⟨h1, h2⟩ | ⟨h1, h2, h3⟩ | ⟨h1, h2, h3, _⟩
  · rw [h1, h2]; rfl
  · rw [h1, h3]; rfl
  · rw [h1, h3]; rfl
def risesNm (l : List (List UInt8)) : Bool := risesB l && l.all okNm
theorem risesNm_no {l : List (List UInt8)} {j : Nat} (hj : j < l.length) (h : okNm l[j] = false) : risesNm l = false := by
  have : l.all okNm = false := by
    rw [List.all_eq_false]
    exact ⟨l[j], List.getElem_mem hj, by simp [h]⟩
  unfold risesNm
  rw [this, Bool.and_false]
theorem risesB_no {l : List (List UInt8)} {j : Nat} (h0 : 0 < j) (hj : j < l.length) (h : ltB l[j - 1] l[j] = false) : risesB l = false := by
  cases hr : risesB l with
  | false => rfl
  | true =>
    have hp := (rises_pair l).1 hr
    have := List.pairwise_iff_getElem.1 hp (j - 1) j (by omega) hj (by omega)
    have e : ltB l[j - 1] l[j] = true := this
    rw [h] at e; cases e
theorem risesB_one {l : List (List UInt8)} (hj : 0 < l.length) : risesB (l.take 1) = true := by
  cases l with
  | nil => simp at hj
  | cons a r => rfl
theorem risesB_more {l : List (List UInt8)} {j : Nat} (h0 : 0 < j) (hj : j < l.length) (hr : risesB (l.take j) = true) (h : ltB l[j - 1] l[j] = true) : risesB (l.take (j + 1)) = true := by
  obtain ⟨i, rfl⟩ : ∃ i, j = i + 1 := ⟨j - 1, by omega⟩
  rw [risesB_step hj, hr]
  simpa using h
theorem refrises_any {w : World} {p : Option Addr} {c : Nat} {l : List (List UInt8)} (h : RdS w p c l) : Calls Tryz.prog 33 #[.slice p l.length c] w fun e w' => e = .returned (.bool (risesNm l)) ∧ Below w.heap.size w w' := by
  have z1 : (l.length : Int) ≤ 140737488355328 := by have := h.2.1.1; omega
  have H := Lib.hid h
  clear h
  go_enter Tryz.func33, Tryz.ntmps33
  go_wp2
  go_loopw [3] (fun i W => ∃ j : Nat, j ≤ l.length ∧ i = .int .i64 (j : Int) ∧ Hid ((l.take j).all okNm = true ∧ risesB (l.take j) = true ∧ Below w.heap.size w W)) (fun i _ => l.length - (intOf i).toNat)
  case atStart => exact ⟨0, Nat.zero_le _, rfl, Lib.hid ⟨by simp, by simp [risesB], Below.refl _ _⟩⟩
  case round =>
    obtain ⟨j, hj, rfl, HI⟩ := hrel
    by_cases hlt : j < l.length
    · have hlt1 : j + 1 ≤ l.length := hlt
      have hRw := H.out.below HI.out.2.2
      obtain ⟨bk, ok, rfl, q1, hl1⟩ := hRw.get hlt
      have hi1 : ∀ W' : World, (Instr.indexAt 26 (.slice (some ⟨bk, ok, none⟩) l.length c) (.int .i64 (j : Int))).run Tryz.prog W' = .ok (.pointer (some ⟨bk, ok + j, none⟩)) W' := fun W' => ia_text hlt W'
      have hall := all_snoc (f := okNm) hlt HI.out.1
      have hno := risesNm_no hlt
      have hnm := fun W => refname_any (w := W) l[j] hl1
      have hB0 : Below wr.heap.size wr wr.drew := (Below.refl _ wr).drew
      cases hok : okNm l[j] with
      | false =>
        have HF := Lib.hid (And.intro (hno hok) HI.out.2.2)
        simp only [hok] at hnm
        generalize l[j] = s1 at *
        have HX := Lib.hid (And.intro hi1 (And.intro q1 (And.intro hnm hB0)))
        clear hi1 q1 hnm hB0 hall hno hRw HI
        go_wp2
        obtain ⟨hi1, q1, hnm, hB0⟩ := HX.out
        refine plain_region_draws (fun W => Below wr.heap.size wr W) (by kernel_rfl) hB0 (fun hS => ?_)
        refine tk 0 10 (v := .slice (some ⟨bk, ok, none⟩) l.length c) rfl rfl (fun W hW => exec_move rfl rfl) ?_
        simp only [Act.put, sA, sZ, sS]
        refine tk 1 11 (v := .int .i64 (j : Int)) rfl rfl (fun W hW => exec_move rfl rfl) ?_
        simp only [Act.put, sA, sZ, sS]
        refine tk 2 12 (v := .pointer (some ⟨bk, ok + j, none⟩)) rfl rfl (fun W hW => exec_indexAddr rfl rfl rfl (hi1 W)) ?_
        simp only [Act.put, sA, sZ, sS]
        refine tk 3 13 (v := .string (strB s1)) rfl rfl (fun W hW => exec_load rfl rfl (run_load1 (w := W) Tryz.underlying9 rfl (belowCell hW (ltOf q1) q1))) ?_
        simp only [Act.put, sA, sZ, sS]
        refine onlyCall 4 14 rfl rfl (by kernel_rfl) rfl (exec_call [.string (strB s1)] rfl rfl Tryz.func35 (by kernel_rfl) (by kernel_rfl)) ?_
        refine (hnm _).mono ?_
        rintro e W4 ⟨rfl, rfl⟩
        have hS4 := hS
        refine ⟨_, rfl, .inr hS4, ?_⟩
        simp only [Act.put, sA, sZ, sS]
        refine tk 5 15 (v := .bool true) rfl rfl (fun W hW => exec_unot (b := false) rfl rfl) ?_
        simp only [Act.put, sA, sZ, sS]
        refine tk 6 16 (v := .bool true) rfl rfl (fun W hW => exec_move rfl rfl) ?_
        simp only [Act.put, sA, sZ, sS]
        refine tn 7 17 rfl rfl ?_
        simp only [Act.put, sA, sZ, sS]
        refine tn 8 18 rfl rfl ?_
        simp only [Act.put, sA, sZ, sS]
        refine tn 9 19 rfl rfl ?_
        simp only [Act.put, sA, sZ, sS]
        refine tn 10 20 rfl rfl ?_
        simp only [Act.put, sA, sZ, sS]
        refine tn 11 21 rfl rfl ?_
        simp only [Act.put, sA, sZ, sS]
        refine tn 12 22 rfl rfl ?_
        simp only [Act.put, sA, sZ, sS]
        refine tn 13 23 rfl rfl ?_
        simp only [Act.put, sA, sZ, sS]
        refine tn 14 24 rfl rfl ?_
        simp only [Act.put, sA, sZ, sS]
        refine tn 15 25 rfl rfl ?_
        simp only [Act.put, sA, sZ, sS]
        refine tn 16 26 rfl rfl ?_
        simp only [Act.put, sA, sZ, sS]
        refine tn 17 27 rfl rfl ?_
        simp only [Act.put, sA, sZ, sS]
        refine tn 18 28 rfl rfl ?_
        simp only [Act.put, sA, sZ, sS]
        refine onlyNot 19 29 rfl rfl (by kernel_rfl) rfl ?_ (.inr (by assumption))
        simp only [Act.put, sA, sZ, sS]
        refine tn 20 30 rfl rfl ?_
        simp only [Act.put, sA, sZ, sS]
        refine tn 21 31 rfl rfl ?_
        simp only [Act.put, sA, sZ, sS]
        refine tk 22 32 (v := .bool true) rfl rfl (fun W hW => rfl) ?_
        simp only [Act.put, sA, sZ, sS]
        refine done (by kernel_rfl) ?_ _
        have HB := Lib.hid hS4
        clear hi1 q1 hnm hB0 hS hS4 HX
        go_wp2
        go_ret
        exact ⟨ret_bool HF.out.1.symm, below_trans HF.out.2 HB.out⟩
      | true =>
        have HA := Lib.hid (hall hok)
        simp only [hok] at hnm
        by_cases h0 : j = 0
        · subst h0
          have HN := Lib.hid (risesB_one hlt)
          have hgt : ∀ W : World, (binOp .gtr 3 (.int .i64 ((0 : Nat) : Int)) (.int .i64 0)).run Tryz.prog W = .ok (.bool false) W := fun W => by simp [go_sem]
          have HB1 := Lib.hid HI.out.2.2
          generalize l[0] = s1 at *
          have HX := Lib.hid (And.intro hi1 (And.intro q1 (And.intro hnm (And.intro hB0 hgt))))
          clear hi1 q1 hnm hB0 hgt hall hno hRw HI hok
          go_wp2
          obtain ⟨hi1, q1, hnm, hB0, hgt⟩ := HX.out
          refine plain_region_draws (fun W => Below wr.heap.size wr W) (by kernel_rfl) hB0 (fun hS => ?_)
          refine tk 0 10 (v := .slice (some ⟨bk, ok, none⟩) l.length c) rfl rfl (fun W hW => exec_move rfl rfl) ?_
          simp only [Act.put, sA, sZ, sS]
          refine tk 1 11 (v := .int .i64 ((0 : Nat) : Int)) rfl rfl (fun W hW => exec_move rfl rfl) ?_
          simp only [Act.put, sA, sZ, sS]
          refine tk 2 12 (v := .pointer (some ⟨bk, ok + 0, none⟩)) rfl rfl (fun W hW => exec_indexAddr rfl rfl rfl (hi1 W)) ?_
          simp only [Act.put, sA, sZ, sS]
          refine tk 3 13 (v := .string (strB s1)) rfl rfl (fun W hW => exec_load rfl rfl (run_load1 (w := W) Tryz.underlying9 rfl (belowCell hW (ltOf q1) q1))) ?_
          simp only [Act.put, sA, sZ, sS]
          refine onlyCall 4 14 rfl rfl (by kernel_rfl) rfl (exec_call [.string (strB s1)] rfl rfl Tryz.func35 (by kernel_rfl) (by kernel_rfl)) ?_
          refine (hnm _).mono ?_
          rintro e W4 ⟨rfl, rfl⟩
          have hS4 := hS
          refine ⟨_, rfl, .inr hS4, ?_⟩
          simp only [Act.put, sA, sZ, sS]
          refine tk 5 15 (v := .bool false) rfl rfl (fun W hW => exec_unot (b := true) rfl rfl) ?_
          simp only [Act.put, sA, sZ, sS]
          refine tk 6 16 (v := .bool false) rfl rfl (fun W hW => exec_move rfl rfl) ?_
          simp only [Act.put, sA, sZ, sS]
          refine tk 7 17 (v := .int .i64 ((0 : Nat) : Int)) rfl rfl (fun W hW => exec_move rfl rfl) ?_
          simp only [Act.put, sA, sZ, sS]
          refine tk 8 18 (v := .bool false) rfl rfl (fun W hW => exec_bini rfl rfl rfl (hgt W)) ?_
          simp only [Act.put, sA, sZ, sS]
          refine tk 9 19 (v := .bool false) rfl rfl (fun W hW => exec_move rfl rfl) ?_
          simp only [Act.put, sA, sZ, sS]
          refine tn 10 20 rfl rfl ?_
          simp only [Act.put, sA, sZ, sS]
          refine tn 11 21 rfl rfl ?_
          simp only [Act.put, sA, sZ, sS]
          refine tn 12 22 rfl rfl ?_
          simp only [Act.put, sA, sZ, sS]
          refine tn 13 23 rfl rfl ?_
          simp only [Act.put, sA, sZ, sS]
          refine tn 14 24 rfl rfl ?_
          simp only [Act.put, sA, sZ, sS]
          refine tn 15 25 rfl rfl ?_
          simp only [Act.put, sA, sZ, sS]
          refine tn 16 26 rfl rfl ?_
          simp only [Act.put, sA, sZ, sS]
          refine tn 17 27 rfl rfl ?_
          simp only [Act.put, sA, sZ, sS]
          refine tn 18 28 rfl rfl ?_
          simp only [Act.put, sA, sZ, sS]
          refine onlyNot 19 29 rfl rfl (by kernel_rfl) rfl ?_ (.inr (by assumption))
          simp only [Act.put, sA, sZ, sS]
          refine tn 20 30 rfl rfl ?_
          simp only [Act.put, sA, sZ, sS]
          refine tk 21 31 (v := .bool false) rfl rfl (fun W hW => rfl) ?_
          simp only [Act.put, sA, sZ, sS]
          refine tk 22 32 (v := .bool false) rfl rfl (fun W hW => rfl) ?_
          simp only [Act.put, sA, sZ, sS]
          refine done (by kernel_rfl) ?_ _
          have HB := Lib.hid (below_trans HB1.out hS4)
          clear hi1 q1 hnm hB0 hgt hS hS4 HX
          go_wp2
          go_roundw
          case rel => exact ⟨1, hlt1, by go_num, Lib.hid ⟨HA.out, HN.out, HB.out⟩⟩
          case measure => simp [intOf]; omega
        · have h0' : 0 < j := Nat.pos_of_ne_zero h0
          obtain ⟨bk2, ok2, e2, q0, hl0⟩ := hRw.get (show j - 1 < l.length by omega)
          cases e2
          have hi0 : ∀ W' : World, (Instr.indexAt 26 (.slice (some ⟨bk, ok, none⟩) l.length c) (.int .i64 ((j - 1 : Nat) : Int))).run Tryz.prog W' = .ok (.pointer (some ⟨bk, ok + (j - 1), none⟩)) W' := fun W' => ia_text (by omega) W'
          have hgt : ∀ W : World, (binOp .gtr 3 (.int .i64 (j : Int)) (.int .i64 0)).run Tryz.prog W = .ok (.bool true) W := fun W => by
            have e : decide ((0 : Int) < (j : Int)) = true := by simp; omega
            simp [go_sem, h0']
          have hsub : ∀ W : World, (binOp .sub 3 (.int .i64 (j : Int)) (.int .i64 1)).run Tryz.prog W = .ok (.int .i64 ((j - 1 : Nat) : Int)) W := fun W => by
            have e1 : (j : Int) = ((j - 1 : Nat) : Int) + 1 := by omega
            rw [e1]
            exact sub_one (by omega) W
          have hnr := risesB_no h0' hlt
          have hmr := risesB_more h0' hlt HI.out.2.1
          have hge := fun W => geq_zero (cmpB l[j - 1] l[j]) W
          simp only [cmp_geq] at hge
          have HNR := Lib.hid (And.intro hnr hmr)
          have HB1 := Lib.hid HI.out.2.2
          generalize l[j - 1] = s0 at *
          generalize l[j] = s1 at *
          have HX := Lib.hid (And.intro hi1 (And.intro q1 (And.intro hnm (And.intro hB0 (And.intro hgt (And.intro hi0 (And.intro q0 (And.intro hl0 (And.intro hl1 (And.intro hsub hge))))))))))
          clear hi1 q1 hnm hB0 hgt hi0 q0 hl0 hl1 hsub hge hall hno hRw HI hok h0 hnr hmr
          cases hlb : ltB s0 s1 with
          | true =>
            have HN := Lib.hid (HNR.out.2 hlb)
            go_wp2
            obtain ⟨hi1, q1, hnm, hB0, hgt, hi0, q0, hl0, hl1, hsub, hge⟩ := HX.out
            refine plain_region_draws (fun W => Below wr.heap.size wr W) (by kernel_rfl) hB0 (fun hS => ?_)
            refine tk 0 10 (v := .slice (some ⟨bk, ok, none⟩) l.length c) rfl rfl (fun W hW => exec_move rfl rfl) ?_
            simp only [Act.put, sA, sZ, sS]
            refine tk 1 11 (v := .int .i64 (j : Int)) rfl rfl (fun W hW => exec_move rfl rfl) ?_
            simp only [Act.put, sA, sZ, sS]
            refine tk 2 12 (v := .pointer (some ⟨bk, ok + j, none⟩)) rfl rfl (fun W hW => exec_indexAddr rfl rfl rfl (hi1 W)) ?_
            simp only [Act.put, sA, sZ, sS]
            refine tk 3 13 (v := .string (strB s1)) rfl rfl (fun W hW => exec_load rfl rfl (run_load1 (w := W) Tryz.underlying9 rfl (belowCell hW (ltOf q1) q1))) ?_
            simp only [Act.put, sA, sZ, sS]
            refine onlyCall 4 14 rfl rfl (by kernel_rfl) rfl (exec_call [.string (strB s1)] rfl rfl Tryz.func35 (by kernel_rfl) (by kernel_rfl)) ?_
            refine (hnm _).mono ?_
            rintro e W4 ⟨rfl, rfl⟩
            have hS4 := hS
            refine ⟨_, rfl, .inr hS4, ?_⟩
            simp only [Act.put, sA, sZ, sS]
            refine tk 5 15 (v := .bool false) rfl rfl (fun W hW => exec_unot (b := true) rfl rfl) ?_
            simp only [Act.put, sA, sZ, sS]
            refine tk 6 16 (v := .bool false) rfl rfl (fun W hW => exec_move rfl rfl) ?_
            simp only [Act.put, sA, sZ, sS]
            refine tk 7 17 (v := .int .i64 (j : Int)) rfl rfl (fun W hW => exec_move rfl rfl) ?_
            simp only [Act.put, sA, sZ, sS]
            refine tk 8 18 (v := .bool true) rfl rfl (fun W hW => exec_bini rfl rfl rfl (hgt W)) ?_
            simp only [Act.put, sA, sZ, sS]
            refine tk 9 19 (v := .bool true) rfl rfl (fun W hW => exec_move rfl rfl) ?_
            simp only [Act.put, sA, sZ, sS]
            refine tk 10 20 (v := .slice (some ⟨bk, ok, none⟩) l.length c) rfl rfl (fun W hW => exec_move rfl rfl) ?_
            simp only [Act.put, sA, sZ, sS]
            refine tk 11 21 (v := .int .i64 (j : Int)) rfl rfl (fun W hW => exec_move rfl rfl) ?_
            simp only [Act.put, sA, sZ, sS]
            refine tk 12 22 (v := .int .i64 ((j - 1 : Nat) : Int)) rfl rfl (fun W hW => exec_bini rfl rfl rfl (hsub W)) ?_
            simp only [Act.put, sA, sZ, sS]
            refine tk 13 23 (v := .pointer (some ⟨bk, ok + (j - 1), none⟩)) rfl rfl (fun W hW => exec_indexAddr rfl rfl rfl (hi0 W)) ?_
            simp only [Act.put, sA, sZ, sS]
            refine tk 14 24 (v := .string (strB s0)) rfl rfl (fun W hW => exec_load rfl rfl (run_load1 (w := W) Tryz.underlying9 rfl (belowCell hW (ltOf q0) q0))) ?_
            simp only [Act.put, sA, sZ, sS]
            refine tk 15 25 (v := .slice (some ⟨bk, ok, none⟩) l.length c) rfl rfl (fun W hW => exec_move rfl rfl) ?_
            simp only [Act.put, sA, sZ, sS]
            refine tk 16 26 (v := .int .i64 (j : Int)) rfl rfl (fun W hW => exec_move rfl rfl) ?_
            simp only [Act.put, sA, sZ, sS]
            refine tk 17 27 (v := .pointer (some ⟨bk, ok + j, none⟩)) rfl rfl (fun W hW => exec_indexAddr rfl rfl rfl (hi1 W)) ?_
            simp only [Act.put, sA, sZ, sS]
            refine tk 18 28 (v := .string (strB s1)) rfl rfl (fun W hW => exec_load rfl rfl (run_load1 (w := W) Tryz.underlying9 rfl (belowCell hW (ltOf q1) q1))) ?_
            simp only [Act.put, sA, sZ, sS]
            refine onlyCall 19 29 rfl rfl (by kernel_rfl) rfl (exec_call [.string (strB s0), .string (strB s1)] rfl rfl Tryz.func93 (by kernel_rfl) (by kernel_rfl)) ?_
            refine (texts_any s0 s1 hl0 hl1 _).mono ?_
            rintro e W19 ⟨rfl, hb19⟩
            have hS19 := below_trans hS4 hb19
            refine ⟨_, rfl, .inr hS19, ?_⟩
            simp only [Act.put, sA, sZ, sS]
            refine tk 20 30 (v := .bool (!(ltB s0 s1))) rfl rfl (fun W hW => exec_bini rfl rfl rfl (hge W)) ?_
            simp only [Act.put, sA, sZ, sS]
            refine tk 21 31 (v := .bool (!(ltB s0 s1))) rfl rfl (fun W hW => rfl) ?_
            simp only [Act.put, sA, sZ, sS]
            refine tk 22 32 (v := .bool (!(ltB s0 s1))) rfl rfl (fun W hW => rfl) ?_
            simp only [Act.put, sA, sZ, sS]
            refine done (by kernel_rfl) ?_ _
            have HB := Lib.hid (below_trans HB1.out hS19)
            clear hi1 q1 hnm hB0 hgt hi0 q0 hl0 hl1 hsub hge hS hS4 hS19 hb19 HX
            simp only [hlb, Bool.not_true]
            go_wp2
            go_roundw
            case rel => exact ⟨j + 1, hlt1, by go_num, Lib.hid ⟨HA.out, HN.out, HB.out⟩⟩
            case measure => simp [intOf]; omega
          | false =>
            have HN := Lib.hid (HNR.out.1 hlb)
            go_wp2
            obtain ⟨hi1, q1, hnm, hB0, hgt, hi0, q0, hl0, hl1, hsub, hge⟩ := HX.out
            refine plain_region_draws (fun W => Below wr.heap.size wr W) (by kernel_rfl) hB0 (fun hS => ?_)
            refine tk 0 10 (v := .slice (some ⟨bk, ok, none⟩) l.length c) rfl rfl (fun W hW => exec_move rfl rfl) ?_
            simp only [Act.put, sA, sZ, sS]
            refine tk 1 11 (v := .int .i64 (j : Int)) rfl rfl (fun W hW => exec_move rfl rfl) ?_
            simp only [Act.put, sA, sZ, sS]
            refine tk 2 12 (v := .pointer (some ⟨bk, ok + j, none⟩)) rfl rfl (fun W hW => exec_indexAddr rfl rfl rfl (hi1 W)) ?_
            simp only [Act.put, sA, sZ, sS]
            refine tk 3 13 (v := .string (strB s1)) rfl rfl (fun W hW => exec_load rfl rfl (run_load1 (w := W) Tryz.underlying9 rfl (belowCell hW (ltOf q1) q1))) ?_
            simp only [Act.put, sA, sZ, sS]
            refine onlyCall 4 14 rfl rfl (by kernel_rfl) rfl (exec_call [.string (strB s1)] rfl rfl Tryz.func35 (by kernel_rfl) (by kernel_rfl)) ?_
            refine (hnm _).mono ?_
            rintro e W4 ⟨rfl, rfl⟩
            have hS4 := hS
            refine ⟨_, rfl, .inr hS4, ?_⟩
            simp only [Act.put, sA, sZ, sS]
            refine tk 5 15 (v := .bool false) rfl rfl (fun W hW => exec_unot (b := true) rfl rfl) ?_
            simp only [Act.put, sA, sZ, sS]
            refine tk 6 16 (v := .bool false) rfl rfl (fun W hW => exec_move rfl rfl) ?_
            simp only [Act.put, sA, sZ, sS]
            refine tk 7 17 (v := .int .i64 (j : Int)) rfl rfl (fun W hW => exec_move rfl rfl) ?_
            simp only [Act.put, sA, sZ, sS]
            refine tk 8 18 (v := .bool true) rfl rfl (fun W hW => exec_bini rfl rfl rfl (hgt W)) ?_
            simp only [Act.put, sA, sZ, sS]
            refine tk 9 19 (v := .bool true) rfl rfl (fun W hW => exec_move rfl rfl) ?_
            simp only [Act.put, sA, sZ, sS]
            refine tk 10 20 (v := .slice (some ⟨bk, ok, none⟩) l.length c) rfl rfl (fun W hW => exec_move rfl rfl) ?_
            simp only [Act.put, sA, sZ, sS]
            refine tk 11 21 (v := .int .i64 (j : Int)) rfl rfl (fun W hW => exec_move rfl rfl) ?_
            simp only [Act.put, sA, sZ, sS]
            refine tk 12 22 (v := .int .i64 ((j - 1 : Nat) : Int)) rfl rfl (fun W hW => exec_bini rfl rfl rfl (hsub W)) ?_
            simp only [Act.put, sA, sZ, sS]
            refine tk 13 23 (v := .pointer (some ⟨bk, ok + (j - 1), none⟩)) rfl rfl (fun W hW => exec_indexAddr rfl rfl rfl (hi0 W)) ?_
            simp only [Act.put, sA, sZ, sS]
            refine tk 14 24 (v := .string (strB s0)) rfl rfl (fun W hW => exec_load rfl rfl (run_load1 (w := W) Tryz.underlying9 rfl (belowCell hW (ltOf q0) q0))) ?_
            simp only [Act.put, sA, sZ, sS]
            refine tk 15 25 (v := .slice (some ⟨bk, ok, none⟩) l.length c) rfl rfl (fun W hW => exec_move rfl rfl) ?_
            simp only [Act.put, sA, sZ, sS]
            refine tk 16 26 (v := .int .i64 (j : Int)) rfl rfl (fun W hW => exec_move rfl rfl) ?_
            simp only [Act.put, sA, sZ, sS]
            refine tk 17 27 (v := .pointer (some ⟨bk, ok + j, none⟩)) rfl rfl (fun W hW => exec_indexAddr rfl rfl rfl (hi1 W)) ?_
            simp only [Act.put, sA, sZ, sS]
            refine tk 18 28 (v := .string (strB s1)) rfl rfl (fun W hW => exec_load rfl rfl (run_load1 (w := W) Tryz.underlying9 rfl (belowCell hW (ltOf q1) q1))) ?_
            simp only [Act.put, sA, sZ, sS]
            refine onlyCall 19 29 rfl rfl (by kernel_rfl) rfl (exec_call [.string (strB s0), .string (strB s1)] rfl rfl Tryz.func93 (by kernel_rfl) (by kernel_rfl)) ?_
            refine (texts_any s0 s1 hl0 hl1 _).mono ?_
            rintro e W19 ⟨rfl, hb19⟩
            have hS19 := below_trans hS4 hb19
            refine ⟨_, rfl, .inr hS19, ?_⟩
            simp only [Act.put, sA, sZ, sS]
            refine tk 20 30 (v := .bool (!(ltB s0 s1))) rfl rfl (fun W hW => exec_bini rfl rfl rfl (hge W)) ?_
            simp only [Act.put, sA, sZ, sS]
            refine tk 21 31 (v := .bool (!(ltB s0 s1))) rfl rfl (fun W hW => rfl) ?_
            simp only [Act.put, sA, sZ, sS]
            refine tk 22 32 (v := .bool (!(ltB s0 s1))) rfl rfl (fun W hW => rfl) ?_
            simp only [Act.put, sA, sZ, sS]
            refine done (by kernel_rfl) ?_ _
            have HB := Lib.hid (below_trans HB1.out hS19)
            clear hi1 q1 hnm hB0 hgt hi0 q0 hl0 hl1 hsub hge hS hS4 hS19 hb19 HX
            simp only [hlb, Bool.not_false]
            go_wp2
            go_ret
            exact ⟨ret_bool (by unfold risesNm; rw [HN.out, Bool.false_and]), HB.out⟩
    · obtain rfl : j = l.length := by omega
      have h1 := HI.out.1
      have h2 := HI.out.2.1
      rw [List.take_length] at h1 h2
      have HF := Lib.hid (And.intro (show risesNm l = true by unfold risesNm; rw [h1, h2]; rfl) HI.out.2.2)
      clear HI h1 h2
      go_wp2
      go_ret
      exact ⟨ret_bool HF.out.1.symm, HF.out.2⟩
theorem refstor_any {v : V} {w : World} {x : Array Value} (hx : VRd w v x) (ht : totV v ≤ 1099511627776) : Calls Tryz.prog 94 #[.agg x] w fun e w' => e = .returned (.bool (okSt v)) ∧ Below w.heap.size w w' := by
  have hb1 := below_new (w := w) (.cells x 31)
  have hx1 := heap_alloc_new w (.cells x 31)
  have HC := Lib.hid (checkR_any ht (hx.below hb1))
  have HST := Lib.hid (fun (ho : okV v = true) W (g : Below (w.alloc (.cells x 31)).heap.size (w.alloc (.cells x 31)) W) => storR_any ((hx.below hb1).below g) ho)
  have HX := Lib.hid (And.intro hb1 hx1)
  have hbx : ∀ W : World, W.heap[w.heap.size]? = some (.cells x 31 (0, 0)) → (loadVar 31 ⟨w.heap.size, 0, none⟩).run Tryz.prog W = .ok (.agg x) W := fun W hW => st_val.get (P := Tryz.prog) (ef_val.size hx) hW
  have HL1 := Lib.hid (hbx _ hx1)
  have HLD := Lib.hid hbx
  have hS := (ef_val.ones hx)
  have hsz := ef_val.size hx
  cases hok : decide (checkV Lib.validD v = 0) with
  | false =>
    have hne : ¬ checkV Lib.validD v = 0 := by simpa using hok
    have hov : okV v = false := by unfold okV; rw [beq_eq_false_iff_ne]; exact hne
    have HF := Lib.hid (show okSt v = false by unfold okSt; rw [hov]; rfl)
    generalize checkV Lib.validD v = ck at *
    clear hb1 hx1 hbx hS hx ht hok hov HST HLD
    go_enter Tryz.func94, Tryz.ntmps94
    go_wp2_with (first
      | ((with_reducible apply op_load); exact HL1.out; exact rfl; clear HL1)
      | (go_at_call 83; refine HC.out.mono ?_; rintro e W2 ⟨rfl, hb⟩; have HB := Lib.hid (below_trans HX.out.1 hb); clear hb))
    go_ret
    exact ⟨ret_bool HF.out.symm, HB.out⟩
  | true =>
    have he : checkV Lib.validD v = 0 := by simpa using hok
    have hov : okV v = true := by unfold okV; rw [he]; rfl
    have HF := Lib.hid (show okSt v = storB v by unfold okSt; rw [hov]; rfl)
    rw [he] at HC
    have HST2 := Lib.hid (HST.out hov)
    generalize storB v = sb at *
    clear hb1 hx1 hbx hS hx ht hok hov HST he
    go_enter Tryz.func94, Tryz.ntmps94
    go_wp2_with (first
      | ((with_reducible apply op_load); exact HL1.out; exact rfl; clear HL1)
      | ((with_reducible apply op_loadH); exact HL2.out; exact rfl; exact rfl; clear HL2)
      | (go_at_call 83
         (
          refine HC.out.mono ?_
          rintro e W2 ⟨rfl, hb⟩
          have HB := Lib.hid (below_trans HX.out.1 hb)
          have HL2 := Lib.hid (HLD.out W2 (belowBlk hb (by simp) HX.out.2))
          have HS2 := Lib.hid (HST2.out W2 hb)
          clear hb))
      | (go_at_call 136; refine HS2.out.mono ?_; rintro e W3 ⟨rfl, hb⟩; have HB3 := Lib.hid (below_trans HB.out hb); clear hb))
    go_ret
    exact ⟨ret_bool HF.out.symm, HB3.out⟩
end Go.Proofs.YtihfnegakcghiaaGreatDoor
