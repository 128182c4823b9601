/- append onto a slice that is nil or owned: what it makes, and where. Nothing of the program is named here. -/
import Derived.Test.YtmgajgeoibbmjaaMaps
namespace Go.Proofs.Ytmgajgeoibbmjaa
open Go.RowKit

section
variable {P : Program} {w : World}

/-- append of m elements that lie at a. -/
theorem append_law (t ty e : TypeId) (i : TypeInfo) (z : Value) (size bytes : Nat) (ht : P.underlying t = some (.slice e)) (hi : P.info? e = some i) (hz : i.zero = some z)
    (hsize : i.size = size) (hby : i.bytes = bytes) (hzs : z.cells.size = size)
    (v : Value) (n : Nat) (xs : List Value) (hown : w.ownsRow 0 e size v n xs)
    (a : Addr) (m c : Nat) (news : List Value) (hl : news.length = m * size) (hnews : ∀ j u, news[j]? = some u → w.cell? (a.add j) = some u) (h1 : ∀ u ∈ news, u.oneCell' = true)
    (h63 : n + m ≤ maxLen) (hbytes : (n + m) * bytes ≤ 140737488355328) :
    ∃ v' w', (Builtin.append_ #[t, t] ty #[v, .slice (some a) m c]).run P w = .ok v' w' ∧ w'.ownsRow 0 e size v' (n + m) (xs ++ news) ∧ Touch (fun b => v.ownBlock = some b) w w' ∧
      (v'.ownBlock = v.ownBlock ∨ v'.ownBlock = some w.heap.size) ∧ w.heap.size ≤ w'.heap.size := by
  subst hsize
  subst hby
  have hsmall : n + m ≤ 9223372036854775807 := by simp only [maxLen] at h63; omega
  have hlen : (xs ++ news).length = (n + m) * i.size := by rw [List.length_append, hown.1, hl, Nat.add_mul]
  have grown : ∀ (old : Nat), old < n + m → ∀ (S : Nat → Prop),
      (w.drew.alloc (.cells (xs.toArray ++ news.toArray ++ Builtin.zeroCells z.cells (grownCap w (n + m) old e - (n + m))) e)).ownsRow 0 e i.size
        (.slice (some ⟨w.heap.size, 0, none⟩) (n + m) (grownCap w (n + m) old e)) (n + m) (xs ++ news) ∧
      Touch S w (w.drew.alloc (.cells (xs.toArray ++ news.toArray ++ Builtin.zeroCells z.cells (grownCap w (n + m) old e - (n + m))) e)) := by
    intro old ho S
    have hge := grownCap_ge w (n + m) old e
    have hcm : grownCap w (n + m) old e ≤ maxLen := grownCap_le_maxLen w (n + m) old e h63
    refine ⟨⟨hlen, .inr ⟨w.heap.size, _, _, rfl, Nat.zero_le _, heap_alloc_new w.drew _, hge, hcm, ?_, ?_⟩⟩, (Touch.refl S w).drew.alloc _⟩
    · simp only [Array.size_append, List.size_toArray, size_zeroCells, hzs, hown.1, hl, ← Nat.add_mul]
      congr 1
      omega
    · simp only [Array.toList_append, List.append_assoc]
      rw [← List.append_assoc, ← hlen]
      exact List.take_left
  rcases hown.2 with ⟨rfl, rfl⟩ | ⟨g, cap, cur, rfl, hbg, hg, hnc, hcm, hcs, htake⟩
  · have hx : xs = [] := List.eq_nil_of_length_eq_zero (by simpa using hown.1)
    subst hx
    by_cases hm : m = 0
    · subst hm
      have hn : news = [] := List.eq_nil_of_length_eq_zero (by simpa using hl)
      subst hn
      refine ⟨.slice none 0 0, w, ?_, World.ownsRow_nil w 0 e i.size, Touch.refl _ _, .inl rfl, Nat.le_refl _⟩
      simp [Builtin.append_, run_underlying ht, sizeOf, typeInfo, hi, Builtin.lenOf, Builtin.firstCells, loadCells, loadCellsFrom]
    · have hr := run_append_nil (P := P) w t ty e i z ht hi hz a m c news hl hnews (by omega) (by omega) (by have hb := hbytes; simp only [Nat.zero_add] at hb; omega)
      have hgr := grown 0 (by omega) (fun b => Value.ownBlock (.slice none 0 0) = some b)
      simp only [Nat.zero_add, List.nil_append, Array.empty_append] at hgr ⊢
      exact ⟨_, _, hr, hgr.1, hgr.2, .inr rfl, hgr.2.size⟩
  · by_cases hroom : n + m ≤ cap
    · have hfit : n * i.size + news.length ≤ cur.size := by rw [hl, hcs, ← Nat.add_mul]; exact Nat.mul_le_mul_right _ hroom
      have hr := run_append_room (P := P) w t ty e i ht hi g n cap cur hg a m c news hl hnews h1 hroom hfit
      refine ⟨_, _, hr, ⟨hlen, .inr ⟨g, cap, _, rfl, hbg, setRow_heap w g cur _ e _ hg, hroom, hcm, ?_, ?_⟩⟩, ⟨rfl, rfl, rfl, by simp, fun k _ hk => setRow_other w g k _ (fun e => hk (by simp [Value.ownBlock, e]))⟩, .inl rfl, by simp⟩
      · simp only [List.size_toArray, List.length_append, List.length_take, List.length_drop, Array.length_toList]
        omega
      · rw [htake, ← hlen]
        exact List.take_left
    · have holds : ∀ j u, xs[j]? = some u → w.cell? ((⟨g, 0, none⟩ : Addr).add j) = some u := hown.cells (g := g) rfl
      have hr := run_append_grow (P := P) w t ty e i z ht hi hz ⟨g, 0, none⟩ n cap xs hown.1 holds a m c news hl hnews (by omega) (by omega) (growslice_fits (by omega) hbytes)
      have hgr := grown cap (by omega) (fun b => Value.ownBlock (.slice (some ⟨g, 0, none⟩) n cap) = some b)
      exact ⟨_, _, hr, hgr.1, hgr.2, .inr rfl, hgr.2.size⟩

/-- append of nothing that is nil. -/
theorem append_law_nil (t ty e : TypeId) (i : TypeInfo) (size : Nat) (ht : P.underlying t = some (.slice e)) (hi : P.info? e = some i)
    (hsize : i.size = size) (v : Value) (n : Nat) (xs : List Value) (hown : w.ownsRow 0 e size v n xs) :
    (Builtin.append_ #[t, t] ty #[v, .slice none 0 0]).run P w = .ok v w := by
  subst hsize
  rcases hown.2 with ⟨rfl, rfl⟩ | ⟨g, cap, cur, rfl, hbg, hg, hnc, hcm, hcs, htake⟩
  · simp [Builtin.append_, run_underlying ht, sizeOf, typeInfo, hi, Builtin.lenOf, Builtin.firstCells, loadCells, loadCellsFrom]
  · simp [Builtin.append_, run_underlying ht, sizeOf, typeInfo, hi, Builtin.lenOf, hnc, Builtin.firstCells, storeCells]

/-- A row of cells in a block of its own. -/
theorem ownsRow_of_heap {b : Nat} {cs : Array Value} {e : TypeId} {size n cap : Nat} {xs : List Value} (h : w.heap[b]? = some (.cells cs e (0, 0))) (hn : n ≤ cap) (hc : cap ≤ maxLen) (hs : cs.size = cap * size) (hx : cs.toList.take (n * size) = xs) (hl : xs.length = n * size) :
    w.ownsRow 0 e size (.slice (some ⟨b, 0, none⟩) n cap) n xs := ⟨hl, .inr ⟨b, cap, cs, rfl, Nat.zero_le _, h, hn, hc, hs, hx⟩⟩

theorem addr_add (b o j : Nat) : (⟨b, o, none⟩ : Addr).add j = ⟨b, o + j, none⟩ := by unfold Addr.add; split <;> simp_all

/-- What an owned row reads as. -/
theorem ownsRow_cell {e : TypeId} {size n cap : Nat} {a : Addr} {xs : List Value} (h : w.ownsRow 0 e size (.slice (some a) n cap) n xs) (j : Nat) (u : Value) (hu : xs[j]? = some u) : w.cell? (a.add j) = some u := by
  have := h.cells (g := a.block) rfl j u hu
  rcases h.2 with ⟨h', _⟩ | ⟨g, cap', cur, h', _⟩
  · cases h'
  · cases h'; exact this
end

theorem foldl_set_list (l : List Value) : ∀ (k : Nat) (cs : Array Value), k + l.length ≤ cs.size →
    ((l.zipIdx k).foldl (fun cs (p : Value × Nat) => cs.setIfInBounds (0 + p.2) p.1) cs).size = cs.size ∧
    ∀ i, ((l.zipIdx k).foldl (fun cs (p : Value × Nat) => cs.setIfInBounds (0 + p.2) p.1) cs)[i]? = if k ≤ i ∧ i < k + l.length then l[i - k]? else cs[i]? := by
  induction l with
  | nil => intro k cs _; exact ⟨rfl, fun i => by rw [if_neg (by simp only [List.length_nil]; omega)]; rfl⟩
  | cons v l ih =>
    intro k cs h
    simp only [List.length_cons] at h
    obtain ⟨h1, h2⟩ := ih (k + 1) (cs.setIfInBounds (0 + k) v) (by simp; omega)
    simp only [List.zipIdx_cons, List.foldl_cons]
    refine ⟨by rw [h1]; simp, fun i => ?_⟩
    rw [h2]
    by_cases hi : i = k
    · subst hi
      rw [if_neg (by omega), if_pos (by simp), Nat.sub_self, Array.getElem?_setIfInBounds]
      simp; omega
    · by_cases h3 : k + 1 ≤ i ∧ i < k + 1 + l.length
      · rw [if_pos h3, if_pos (by simp only [List.length_cons]; omega)]
        have : i - k = (i - (k + 1)) + 1 := by omega
        rw [this, List.getElem?_cons_succ]
      · rw [if_neg h3, if_neg (by simp only [List.length_cons]; omega), Array.getElem?_setIfInBounds, if_neg (by omega)]
theorem foldl_set (vs cs : Array Value) (h : cs.size = vs.size) : vs.zipIdx.foldl (fun cs (p : Value × Nat) => cs.setIfInBounds (0 + p.2) p.1) cs = vs := by
  have h0 := foldl_set_list vs.toList 0 cs (by simp [h])
  have e : vs.zipIdx.foldl (fun cs (p : Value × Nat) => cs.setIfInBounds (0 + p.2) p.1) cs = (vs.toList.zipIdx 0).foldl (fun cs (p : Value × Nat) => cs.setIfInBounds (0 + p.2) p.1) cs := by
    rw [← Array.foldl_toList, Array.toList_zipIdx]
  rw [e]
  apply Array.ext_getElem?
  intro i
  rw [h0.2 i]
  by_cases hi : i < vs.size
  · rw [if_pos (by simp; omega)]; simp
  · rw [if_neg (by simp; omega), Array.getElem?_eq_none (by omega), Array.getElem?_eq_none (by omega)]

/-- A slice of one element, built. -/
theorem run_buildSlice_one {P : Program} {w : World} {t e : TypeId} {size : Nat} {z v : Value} (ht : P.underlying t = some (.slice e)) (hs : ∀ w, (sizeOf e).run P w = .ok size w) (hz : ∀ w, (zeroValue e).run P w = .ok z w) (hv : v.cells.size = size) (h0 : 0 < size) (h1 : size ≤ 2 ^ 24) :
    (Instr.buildSlice t 1 #[(0, v)]).run P w = .ok (.slice (some ⟨w.heap.size, 0, none⟩) 1 1) (w.alloc (.cells v.cells e)) := by
  have hn : ¬ (1 * size > 2 ^ 24) := by omega
  have hn0 : ¬ (1 * size = 0) := by omega
  have hf : Instr.fill (fun i => some (i * size, size)) ((Array.range (1 * size)).map (z.cells[· % z.cells.size]!)) [(0, v)] = some v.cells := by
    simp only [Instr.fill]
    rw [if_neg (by simp [hv])]
    congr 1
    have := foldl_set v.cells ((Array.range (1 * size)).map (z.cells[· % z.cells.size]!)) (by simp [hv])
    simpa using this
  unfold Instr.buildSlice
  simp only [Sem.run_bind, run_underlying ht, Result.andThen_ok, hs, hn, if_false, hn0, hz, Sem.run_pure, hf]
  rfl

/-- The world behind a store into a map with int keys. -/
def mapPut (P : Program) (T : TypeId) (w : World) (b : Nat) (k : Int) (v : Value) : World :=
  match (Instr.mapUpdate T (.map (some b)) (.int .i64 k) v).run P w with
  | .ok _ w' => w'
  | .halt _ w' => w'
theorem run_mapPut {P : Program} {T K E : TypeId} {w : World} {b : Nat} {m : Int → Option Value} (h : IntMap w b m) (hT : P.underlying T = some (.map K E)) (hK : P.underlying K = some (.int .i64)) (k : Int) (v : Value) :
    (Instr.mapUpdate T (.map (some b)) (.int .i64 k) v).run P w = .ok () (mapPut P T w b k v) ∧ Touch (fun x => x = b) w (mapPut P T w b k v) ∧ IntMap (mapPut P T w b k v) b (updI m k v) := by
  obtain ⟨w', h1, h2, h3, h4⟩ := run_mapUpdate_int (P := P) h hT hK k v
  have e : mapPut P T w b k v = w' := by unfold mapPut; rw [h1]
  rw [e]; exact ⟨h1, h2, h3⟩
end Go.Proofs.Ytmgajgeoibbmjaa
