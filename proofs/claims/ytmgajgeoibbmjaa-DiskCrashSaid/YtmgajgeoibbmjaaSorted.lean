/- slices.Sorted(maps.Keys(m)): collect, sort. -/
import Derived.Test.YtmgajgeoibbmjaaKeys
import Derived.Test.YtmgajgeoibbmjaaDisk
namespace Go.Proofs.Ytmgajgeoibbmjaa
open Go.RowKit

attribute [local go_sem] Oper.semAt_some

/-- Ints in memory of their own; ints that can be read. -/
def OwnI (w : World) (v : Value) (l : List Int) : Prop := w.ownsRow 0 3 1 v l.length (l.map (Value.int .i64))
def RdI (w : World) (v : Value) (l : List Int) : Prop :=
  ∃ a cap, v = .slice a l.length cap ∧ (a = none → l = []) ∧ ∀ ad, a = some ad → (l ≠ [] → ad.spot = none) ∧ ∀ (i : Nat) (k : Int), l[i]? = some k → w.cell? ⟨ad.block, ad.off + i, none⟩ = some (.int .i64 k)
theorem RdI.lt {w : World} {p : Option Addr} {n c : Nat} {l : List Int} (h : RdI w (.slice p n c) l) (hl : l ≠ []) : ∀ ad, p = some ad → ad.block < w.heap.size := by
  obtain ⟨a, cap, heq, h1, h2⟩ := h
  cases heq
  intro ad had
  obtain ⟨k, r, rfl⟩ := List.exists_cons_of_ne_nil hl
  exact ltOf ((h2 ad had).2 0 k rfl)
theorem RdI.below {w w' : World} {v : Value} {l : List Int} (h : RdI w v l) (g : Below w.heap.size w w') : RdI w' v l := by
  obtain ⟨a, cap, rfl, h1, h2⟩ := h
  exact ⟨a, cap, rfl, h1, fun ad had => ⟨(h2 ad had).1, fun i k hi => belowCell g (ltOf ((h2 ad had).2 i k hi)) ((h2 ad had).2 i k hi)⟩⟩
theorem OwnI.touch {S : Nat → Prop} {w w' : World} {v : Value} {l : List Int} (h : OwnI w v l) (g : Touch S w w') (hs : ∀ b, v.ownBlock = some b → ¬ S b) : OwnI w' v l := ownsRow_heap h fun b hb => g.block b (h.lt b hb).2 (hs b hb)
theorem OwnI.below {w w' : World} {v : Value} {l : List Int} (h : OwnI w v l) (g : Below w.heap.size w w') : OwnI w' v l := ownsRow_heap h fun b hb => g.block b (h.lt b hb).2
theorem OwnI.nil (w : World) : OwnI w (.slice none 0 0) [] := World.ownsRow_nil _ _ _ _
theorem OwnI.shape {w : World} {v : Value} {l : List Int} (h : OwnI w v l) : (v = .slice none 0 0 ∧ l = []) ∨ ∃ g c, v = .slice (some ⟨g, 0, none⟩) l.length c ∧ g < w.heap.size ∧
    ∀ (i : Nat) (k : Int), l[i]? = some k → w.cell? ⟨g, i, none⟩ = some (.int .i64 k) ∧ w.frozen? ⟨g, i, none⟩ = false := by
  rcases h.2 with ⟨rfl, h0⟩ | ⟨g, cap, cur, rfl, _, hg, hnc, hcm, hcs, htake⟩
  · exact .inl ⟨rfl, List.eq_nil_of_length_eq_zero h0⟩
  · refine .inr ⟨g, cap, rfl, (Array.getElem?_eq_some_iff.1 hg).1, fun i k hi => ⟨cellOf hg ?_, freeOf hg⟩⟩
    have hlt : i < l.length := (List.getElem?_eq_some_iff.1 hi).1
    have h1 : ((cur.toList.take (l.length * 1))[i]? : Option Value) = some (.int .i64 k) := by rw [htake]; simp [hi]
    rw [List.getElem?_take] at h1
    split at h1
    · simpa using h1
    · cases h1
theorem info_int : ∃ i, Try.prog.info? 3 = some i ∧ i.zero = some (.int .i64 0) ∧ i.size = 1 ∧ i.bytes = 8 := info_parts (by kernel_rfl)
/-- append of one int. -/
theorem append_int {w : World} {v : Value} {l : List Int} (hown : OwnI w v l) (g : Nat) (c : Nat) (x : Int) (hx : w.cell? ⟨g, 0, none⟩ = some (.int .i64 x)) (hlen : l.length ≤ 1000000) (ty : TypeId) :
    ∃ v' w', (Builtin.append_ #[31, 31] ty #[v, .slice (some ⟨g, 0, none⟩) 1 c]).run Try.prog w = .ok v' w' ∧ OwnI w' v' (l ++ [x]) ∧ Touch (fun b => v.ownBlock = some b) w w' ∧
      (v'.ownBlock = v.ownBlock ∨ v'.ownBlock = some w.heap.size) ∧ w.heap.size ≤ w'.heap.size := by
  obtain ⟨i0, h1, h2, h3, h4⟩ := info_int
  obtain ⟨v', w', a1, a2, a3, a4, a5⟩ := append_law (P := Try.prog) (w := w) 31 ty 3 i0 (.int .i64 0) 1 8 Try.underlying31 h1 h2 h3 h4 rfl v l.length (l.map (Value.int .i64)) hown ⟨g, 0, none⟩ 1 c [.int .i64 x] rfl (by
    intro j u hu
    cases j with
    | zero => simp at hu; subst hu; rw [addr_add]; exact hx
    | succ j => simp at hu) (by intro u hu; simp at hu; subst hu; rfl) (by unfold maxLen; omega) (by omega)
  exact ⟨v', w', a1, by unfold OwnI; rw [List.length_append, List.map_append]; exact a2, a3, a4, a5⟩

theorem nodup_length_le : ∀ (l ks : List Int), l.Nodup → (∀ k ∈ l, k ∈ ks) → l.length ≤ ks.length
  | [], _, _, _ => Nat.zero_le _
  | x :: l, ks, hn, hs => by
    have hx : x ∈ ks := hs x (by simp)
    have h1 := nodup_length_le l (ks.erase x) (List.nodup_cons.1 hn).2 (fun k hk => (List.mem_erase_of_ne (fun e => by subst e; exact (List.nodup_cons.1 hn).1 hk)).2 (hs k (by simp [hk])))
    rw [List.length_erase_of_mem hx] at h1
    have := List.length_pos_of_mem hx
    simp only [List.length_cons]
    omega
theorem keys_short {es : Array MapEntry} {pre : List Int} (hn : pre.Nodup) (hk : ∀ k ∈ pre, isKey es k) : pre.length ≤ es.size := by
  have h1 := nodup_length_le pre (keysOf es.toList) hn (fun k hk' => by
    obtain ⟨v, hv⟩ := Option.isSome_iff_exists.1 (hk k hk')
    obtain ⟨e, he, hke, _⟩ := getE_some hv
    exact List.mem_filterMap.2 ⟨e, he, hke⟩)
  have h2 : (keysOf es.toList).length ≤ es.toList.length := List.length_filterMap_le _ _
  have h3 : es.toList.length = es.size := Array.length_toList
  omega

set_option maxRecDepth 100000 in
set_option maxHeartbeats 2000000 in
theorem appendSeq_keys (B b : Nat) (es : Array MapEntry) (clk : Nat) (hg : GoodE es.toList clk) (hes : es.size ≤ 1000000) (w : World) (hB : w.cell? ⟨B, 0, none⟩ = some (.map (some b))) (hb : w.heap[b]? = some (.map es clk)) :
    Calls Try.prog 56 #[.slice none 0 0, .func (.func 51) #[] #[.pointer (some ⟨B, 0, none⟩)]] w fun e w' =>
      ∃ v xs, e = .returned v ∧ OwnI w' v xs ∧ xs.Nodup ∧ (∀ k, k ∈ xs ↔ isKey es k) ∧ Below w.heap.size w w' ∧ (∀ g, v.ownBlock = some g → w.heap.size ≤ g) := by
  have hBlt := ltOf hB
  have hblt : b < w.heap.size := (Array.getElem?_eq_some_iff.1 hb).1
  refine calls_of_wp_marks Try.func56 rfl ?_
  simp only [Try.ntmps56, List.size_toArray, List.length_cons, List.length_nil, Nat.reduceAdd, Nat.reduceSub, Array.replicate_succ, Array.replicate_zero, List.push_toArray, List.append_toArray, List.nil_append, List.cons_append]
  go_wp2
  generalize hw1 : w.alloc _ = w1
  have hs1 : w.heap.size + 1 ≤ w1.heap.size := by rw [← hw1]; simp
  have hb1 : Below w.heap.size w w1 := by rw [← hw1]; exact (Below.refl _ _).alloc (Nat.le_refl _) _
  have c2 : w1.cell? ⟨w.heap.size, 0, none⟩ = some (.slice none 0 0) := by rw [← hw1]; simp [go_sem]
  have f2 : w1.frozen? ⟨w.heap.size, 0, none⟩ = false := by rw [← hw1]; simp [go_sem]
  clear hw1
  refine wp_range (gf := 51) (gfn := Try.f51) (lb := #[.pointer (some ⟨B, 0, none⟩)]) rfl Try.func51 rfl rfl
    (iter_keys B b es clk hg) (fun _ => rfl)
    (fun pre W => Below w.heap.size w W ∧ ∃ v, W.cell? ⟨w.heap.size, 0, none⟩ = some v ∧ W.frozen? ⟨w.heap.size, 0, none⟩ = false ∧ OwnI W v pre ∧ (∀ g, v.ownBlock = some g → w1.heap.size + 2 + 1 ≤ g))
    (fun _ _ => False) (fun x => x = w.heap.size ∨ w1.heap.size + 2 + 1 ≤ x) (fun x hx => by rcases hx with h | h; exact .inl (by omega); exact .inr h) ?h0 ?hpre ?hkeep ?hput ?hputx ?hround ?hdone ?hstop
  case h0 =>
    intro W hBW hsz
    exact ⟨hb1.trans (hBW.mono (by omega)), _, belowCell hBW (by omega) c2, belowFrozen hBW (by omega) f2, OwnI.nil _, fun g hg => by cases hg⟩
  case hpre => exact fun pre W ⟨h1, _⟩ => ⟨belowCell h1 hBlt hB, belowBlk h1 hblt hb⟩
  case hkeep =>
    rintro pre W W' ⟨h1, v, h2, h3, h4, h5⟩ hs hk
    exact ⟨hk.below h1 (fun x hx hh => by omega) (by omega), v, hk.cell h2 (by omega), hk.frozen h3 (by omega) (by omega), h4.touch hk (fun g hg hh => by have := h5 g hg; omega), h5⟩
  case hput =>
    rintro pre W o ⟨h1, v, h2, h3, h4, h5⟩
    exact ⟨below_putObj h1 (by omega), v, by rw [cell_putObj (by omega)]; exact h2, by rw [frozen_putObj (by omega)]; exact h3, h4.touch (S := fun x => x = w1.heap.size + 1) ((Touch.refl _ _).putObj (.inl (by exact rfl)) _) (fun g hg hh => by have := h5 g hg; omega), h5⟩
  case hputx => exact fun _ _ _ h => h
  case hstop => exact fun _ _ h => h.elim
  case hdone =>
    rintro xs W ⟨hnd, hks⟩ ⟨h1, v, h2, h3, h4, h5⟩ hD
    have H := Lib.hid (And.intro hnd (And.intro hks (And.intro h1 h4)))
    have hvs : ∃ p n c, v = .slice p n c := by rcases h4.shape with ⟨rfl, _⟩ | ⟨g, c, rfl, _⟩ <;> exact ⟨_, _, _, rfl⟩
    obtain ⟨p, n, c, rfl⟩ := hvs
    clear hnd hks h1 h3 h4
    go_wp2
    exact leave_mark hD (results_tmp rfl _ _ _) ⟨_, xs, rfl, H.out.2.2.2.touch (S := fun x => x = w1.heap.size) ((Touch.refl _ _).putObj (.inl (by exact rfl)) _) (fun g hg hh => by have := h5 g hg; omega), H.out.1, H.out.2.1, below_putObj H.out.2.2.1 (by omega), fun g hg => by have := h5 g hg; omega⟩
  case hround =>
    rintro r r' pre x W ⟨hnd, hok⟩ ⟨h1, v, h2, h3, h4, h5⟩ hsz hl
    have hlen : pre.length ≤ 1000000 := by
      have := keys_short hnd hok
      rw [List.length_append] at this
      omega
    have HH := Lib.hid (And.intro hl (And.intro h1 (And.intro h2 (And.intro h3 (And.intro h4 h5)))))
    clear hl h1 h2 h3 h4 h5 hnd hok c2 f2 hb1
    gi_wp2
    obtain ⟨hl, h1, h2, h3, h4, h5⟩ := HH.out
    refine ⟨Touch.refl _ _, hl, fun w₂ hw2 => ?_⟩
    have hT0 : Touch (fun y => y = w1.heap.size + 1) W w₂ := by rw [hw2]; exact (Touch.refl _ _).putObj (.inl (by exact rfl)) _
    have hb2 : Below w.heap.size w w₂ := hT0.below h1 (fun y hy hh => by omega) (by omega)
    have c2' : w₂.cell? ⟨w.heap.size, 0, none⟩ = some v := hT0.cell h2 (by omega)
    have f2' : w₂.frozen? ⟨w.heap.size, 0, none⟩ = false := hT0.frozen h3 (ltOf h2) (by omega)
    have hown2 : OwnI w₂ v pre := h4.touch hT0 (fun g hg hh => by have := h5 g hg; omega)
    have hs2 := hT0.size
    have hB3 : Below w₂.heap.size w₂ (w₂.alloc (.cells #[.int .i64 x] 3)) := (Below.refl _ _).alloc (Nat.le_refl _) _
    obtain ⟨v', W3, happ, k1, k2, k3, k4⟩ := append_int (hown2.below hB3) w₂.heap.size 1 x (by simp [go_sem]) hlen 31
    have hvs : ∃ p n c, v = .slice p n c := by rcases hown2.shape with ⟨rfl, _⟩ | ⟨g, c, rfl, _⟩ <;> exact ⟨_, _, _, rfl⟩
    obtain ⟨p, n, c, rfl⟩ := hvs
    have hvs' : ∃ p n c, v' = .slice p n c := by rcases k1.shape with ⟨rfl, _⟩ | ⟨g, c, rfl, _⟩ <;> exact ⟨_, _, _, rfl⟩
    obtain ⟨p', n', c', rfl⟩ := hvs'
    have hg' : ∀ g, (Value.slice p' n' c').ownBlock = some g → w1.heap.size + 2 + 1 ≤ g := fun g hg => by
      rcases k3 with e | e
      · exact h5 g (by rw [← e]; exact hg)
      · rw [e] at hg; simp at hg; omega
    have hT3 : Touch (fun y => w1.heap.size + 2 + 1 ≤ y) w₂ W3 := (Touch.of_below hB3 (fun y hy hle => absurd hy (by omega))).step k2 (fun y hy hh => h5 y hh)
    have c3 : W3.cell? ⟨w.heap.size, 0, none⟩ = some (.slice p n c) := hT3.cell c2' (by omega)
    have f3 : W3.frozen? ⟨w.heap.size, 0, none⟩ = false := hT3.frozen f2' (ltOf c2') (by omega)
    have hT4 : Touch (fun y => y = w.heap.size) W3 (W3.setCell ⟨w.heap.size, 0, none⟩ (.slice p' n' c')) := (Touch.refl _ _).setCell (.inl (by exact rfl)) _
    have hfin : Over (fun x => x = w.heap.size ∨ w1.heap.size + 2 + 1 ≤ x) w₂ (W3.setCell ⟨w.heap.size, 0, none⟩ (.slice p' n' c')) ∧ Below w.heap.size w (W3.setCell ⟨w.heap.size, 0, none⟩ (.slice p' n' c')) ∧
        ∃ v, (W3.setCell ⟨w.heap.size, 0, none⟩ (.slice p' n' c')).cell? ⟨w.heap.size, 0, none⟩ = some v ∧ (W3.setCell ⟨w.heap.size, 0, none⟩ (.slice p' n' c')).frozen? ⟨w.heap.size, 0, none⟩ = false ∧ OwnI (W3.setCell ⟨w.heap.size, 0, none⟩ (.slice p' n' c')) v (pre ++ [x]) ∧ (∀ g, v.ownBlock = some g → w1.heap.size + 2 + 1 ≤ g) := by
      refine ⟨(hT3.mono (fun y hy hh => .inr hh)).step hT4 (fun y hy hh => .inl hh), ?_, _, World.cell?_setCell_same' _ _ _ (by rw [c3]; rfl), by rw [World.frozen?_setCell]; exact f3, k1.touch hT4 (fun g hg hh => by have := hg' g hg; omega), hg'⟩
      exact belowSet (hT3.below hb2 (fun y hy hh => by omega) (by omega)) (Nat.le_refl _) _
    have Hf := Lib.hid hfin
    have Ha := Lib.hid happ
    clear hfin happ hT4 hT3 hg' k1 k2 k3 k4 hB3 hown2 hb2 hT0 hw2 h1 h2 h3 h4 h5 hl
    gi_wp2_with (refine wpListIn_run (fun _ => trivial) rfl (by simp) (exec_append rfl rfl rfl Ha.out) ?_)
    exact Hf.out

/-! ### the sort -/
abbrev srt (l : List Int) : List Int := l.mergeSort fun x y => decide (x ≤ y)
open Go.Sort in
theorem sort_any {w : World} {v : Value} {l : List Int} (h : OwnI w v l) (hl : l.length ≤ 1000000) :
    Calls Try.prog 50 #[v] w fun e w' => e = .returned (.tuple #[]) ∧ RdI w' v (srt l) ∧ ∀ B, (∀ g, v.ownBlock = some g → B ≤ g) → B ≤ w.heap.size → Below B w w' := by
  rcases h.shape with ⟨rfl, rfl⟩ | ⟨g, c, rfl, hg, hc⟩
  · refine (Try.slices_Sort_int_none none 0 w).mono ?_
    rintro e w' ⟨rfl, rfl⟩
    exact ⟨rfl, ⟨none, 0, by simp [srt], fun _ => by simp [srt], fun ad h => by cases h⟩, fun B _ _ => Below.refl _ _⟩
  · have hH : Holds (Value.int .i64) w g 0 l.toArray := fun j hj => by
      have hj' : j < l.length := by simpa using hj
      have := hc j l[j] (by simp [hj'])
      rw [Nat.zero_add]
      have e : l.toArray[j]! = l[j] := by simp [hj']
      rw [e]; exact this
    refine (Try.slices_Sort_int g 0 c l w hH hg (by omega)).mono ?_
    rintro e w' ⟨rfl, n, os, rfl⟩
    have hls : (srt l).length = l.length := List.length_mergeSort _
    have hsz : (srt l).toArray.size = l.toArray.size := by simp
    have hcell : ∀ (i : Nat) (k : Int), (srt l)[i]? = some k → (grow (putRow (Value.int .i64) (Sort.ahead w n) g 0 (srt l).toArray) os).cell? ⟨g, i, none⟩ = some (.int .i64 k) := by
      intro i k hi
      have hlt : i < (srt l).length := (List.getElem?_eq_some_iff.1 hi).1
      have h1 := cell?_putRow (Value.int .i64) (Sort.ahead w n) g 0 l.toArray (srt l).toArray hH hsz i (by simpa using hlt)
      rw [Nat.zero_add] at h1
      have e : (srt l).toArray[i]! = k := by
        have h3 := (List.getElem?_eq_some_iff.1 hi).2
        rw [getElem!_pos (srt l).toArray i (by simpa using hlt)]
        simpa using h3
      rw [e] at h1
      rw [cell?_grow _ _ _ (by simpa using hg)]
      exact h1
    refine ⟨rfl, ⟨some ⟨g, 0, none⟩, c, by rw [hls], fun h => (by cases h), fun ad had => ?_⟩, fun B hB hBw => ?_⟩
    · cases had
      refine ⟨fun _ => rfl, fun i k hi => ?_⟩
      rw [Nat.zero_add]
      exact hcell i k hi
    · refine ⟨rfl, rfl, rfl, by simp, fun b hb => ?_⟩
      have hbg : B ≤ g := hB g rfl
      rw [heap_grow_old _ _ (by simpa using (by omega : b < w.heap.size))]
      simp only [putRow, mapBlock, Array.getElem?_modify]
      rw [if_neg (by omega)]
      rfl

theorem srt_strict {l : List Int} (h : l.Nodup) : (srt l).Pairwise (· < ·) := by
  have h1 : (srt l).Pairwise (fun x y => decide (x ≤ y) = true) := List.pairwise_mergeSort (fun a b c h1 h2 => by simp at *; omega) (fun a b => by simp; omega) l
  have h2 : (srt l).Nodup := (List.mergeSort_perm l _).nodup_iff.2 h
  exact (List.Pairwise.and h1 h2).imp (fun h => by have := h.1; simp at this; have := h.2; omega)
theorem mem_srt {l : List Int} {k : Int} : k ∈ srt l ↔ k ∈ l := (List.mergeSort_perm l _).mem_iff

set_option maxRecDepth 100000 in
set_option maxHeartbeats 1000000 in
theorem collect_keys (B b : Nat) (es : Array MapEntry) (clk : Nat) (hg : GoodE es.toList clk) (hes : es.size ≤ 1000000) (w : World) (hB : w.cell? ⟨B, 0, none⟩ = some (.map (some b))) (hb : w.heap[b]? = some (.map es clk)) :
    Calls Try.prog 49 #[.func (.func 51) #[] #[.pointer (some ⟨B, 0, none⟩)]] w fun e w' =>
      ∃ p n c xs, e = .returned (.slice p n c) ∧ OwnI w' (.slice p n c) xs ∧ xs.Nodup ∧ (∀ k, k ∈ xs ↔ isKey es k) ∧ Below w.heap.size w w' ∧ (∀ g, (Value.slice p n c).ownBlock = some g → w.heap.size ≤ g) := by
  have Hap := Lib.hid (appendSeq_keys B b es clk hg hes w hB hb)
  clear hg hes hB hb
  go_enter Try.func49, Try.ntmps49
  go_wp2_with (go_at_call 56; refine Hap.out.mono ?_; rintro e w1 ⟨v, xs, rfl, h1, h2, h3, h4, h5⟩
               have hvs : ∃ p n c, v = .slice p n c := by rcases h1.shape with ⟨rfl, _⟩ | ⟨g, c, rfl, _⟩ <;> exact ⟨_, _, _, rfl⟩
               obtain ⟨p, n, c, rfl⟩ := hvs
               have H := Lib.hid (And.intro h1 (And.intro h2 (And.intro h3 (And.intro h4 h5)))); clear h1 h2 h3 h4 h5)
  go_ret
  exact ⟨_, _, _, xs, rfl, H.out⟩

set_option maxRecDepth 100000 in
set_option maxHeartbeats 1000000 in
theorem sorted_keys (B b : Nat) (es : Array MapEntry) (clk : Nat) (hg : GoodE es.toList clk) (hes : es.size ≤ 1000000) (w : World) (hB : w.cell? ⟨B, 0, none⟩ = some (.map (some b))) (hb : w.heap[b]? = some (.map es clk)) :
    Calls Try.prog 33 #[.func (.func 51) #[] #[.pointer (some ⟨B, 0, none⟩)]] w fun e w' =>
      ∃ p n c xs, e = .returned (.slice p n c) ∧ RdI w' (.slice p n c) xs ∧ xs.Pairwise (· < ·) ∧ (∀ k, k ∈ xs ↔ isKey es k) ∧ Below w.heap.size w w' ∧ (∀ g, (Value.slice p n c).ownBlock = some g → w.heap.size ≤ g) := by
  have Hc := Lib.hid (collect_keys B b es clk hg hes w hB hb)
  have Hes := Lib.hid hes
  clear hg hes hB hb
  go_enter Try.func33, Try.ntmps33
  go_wp2_with (first
    | (go_at_call 49; refine Hc.out.mono ?_; rintro e w1 ⟨p, n, c, xs, rfl, h1, h2, h3, h4, h5⟩
       have H := Lib.hid (And.intro h1 (And.intro h2 (And.intro h3 (And.intro h4 h5))))
       have Hs := Lib.hid (sort_any h1 (by have := keys_short h2 (fun k hk => (h3 k).1 hk); have := Hes.out; omega)); clear h1 h2 h3 h4 h5)
    | (go_at_call 50; refine Hs.out.mono ?_; rintro e w2 ⟨rfl, h5, h6⟩; have H2 := Lib.hid (And.intro h5 h6); clear h5 h6))
  go_ret
  refine ⟨p, n, c, srt xs, rfl, H2.out.1, srt_strict H.out.2.1, fun k => mem_srt.trans (H.out.2.2.1 k), H.out.2.2.2.1.trans (H2.out.2 _ H.out.2.2.2.2 H.out.2.2.2.1.size), H.out.2.2.2.2⟩
end Go.Proofs.Ytmgajgeoibbmjaa
