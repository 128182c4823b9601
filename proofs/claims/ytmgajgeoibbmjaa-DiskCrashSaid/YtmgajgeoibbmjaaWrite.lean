/- The disk: Write. -/
import Derived.Test.YtmgajgeoibbmjaaDiskb
import Derived.Test.YtmgajgeoibbmjaaAppend
import Derived.Test.YtmgajgeoibbmjaaRound
namespace Go.Proofs.Ytmgajgeoibbmjaa
open Go.RowKit

/-- k blocks of l are written from at_ on. -/
def DM.wrote (d : DM) (fails : Bool) (at_ : Nat) (l : List UInt8) (k : Nat) : DM :=
  { d with
    since := fun j => if (at_ : Int) ≤ j ∧ j < at_ + k then some ((d.since j).getD [] ++ [blkOf l (j - at_).toNat]) else d.since j
    seen := fun j => if fails = false ∧ (at_ : Int) ≤ j ∧ j < at_ + k then some (blkOf l (j - at_).toNat) else d.seen j }

theorem DM.wrote_zero (d : DM) (fails : Bool) (at_ : Nat) (l : List UInt8) : d.wrote fails at_ l 0 = d := by
  have h : ∀ j : Int, ¬ ((at_ : Int) ≤ j ∧ j < at_ + (0 : Nat)) := fun j => by omega
  have h' : ∀ j : Int, ¬ (fails = false ∧ (at_ : Int) ≤ j ∧ j < at_ + (0 : Nat)) := fun j hc => h j hc.2
  have e1 : (d.wrote fails at_ l 0).since = d.since := funext fun j => if_neg (h j)
  have e2 : (d.wrote fails at_ l 0).seen = d.seen := funext fun j => if_neg (h' j)
  have : d.wrote fails at_ l 0 = { d with since := (d.wrote fails at_ l 0).since, seen := (d.wrote fails at_ l 0).seen } := rfl
  rw [this, e1, e2]

theorem DM.wrote_since (d : DM) (fails : Bool) (at_ : Nat) (l : List UInt8) (k : Nat) (j : Int) :
    (d.wrote fails at_ l (k + 1)).since j = if j = ((at_ + k : Nat) : Int) then some ((d.since j).getD [] ++ [blkOf l k]) else (d.wrote fails at_ l k).since j := by
  show (if (at_ : Int) ≤ j ∧ j < at_ + (k + 1 : Nat) then some ((d.since j).getD [] ++ [blkOf l (j - at_).toNat]) else d.since j) = _
  by_cases h : j = ((at_ + k : Nat) : Int)
  · have h1 : (at_ : Int) ≤ j ∧ j < at_ + (k + 1 : Nat) := by omega
    have h2 : (j - at_).toNat = k := by omega
    rw [if_pos h1, if_pos h, h2]
  · rw [if_neg h]
    show _ = if (at_ : Int) ≤ j ∧ j < at_ + (k : Nat) then some ((d.since j).getD [] ++ [blkOf l (j - at_).toNat]) else d.since j
    by_cases h1 : (at_ : Int) ≤ j ∧ j < at_ + (k : Nat)
    · rw [if_pos h1, if_pos (by omega)]
    · rw [if_neg h1, if_neg (by omega)]
theorem DM.wrote_seen (d : DM) (fails : Bool) (at_ : Nat) (l : List UInt8) (k : Nat) (j : Int) :
    (d.wrote fails at_ l (k + 1)).seen j = if fails = false ∧ j = ((at_ + k : Nat) : Int) then some (blkOf l k) else (d.wrote fails at_ l k).seen j := by
  show (if fails = false ∧ (at_ : Int) ≤ j ∧ j < at_ + (k + 1 : Nat) then some (blkOf l (j - at_).toNat) else d.seen j) = if fails = false ∧ j = ((at_ + k : Nat) : Int) then some (blkOf l k) else if fails = false ∧ (at_ : Int) ≤ j ∧ j < at_ + (k : Nat) then some (blkOf l (j - at_).toNat) else d.seen j
  cases fails with
  | true => rw [if_neg (by simp), if_neg (by simp), if_neg (by simp)]
  | false =>
    by_cases h : j = ((at_ + k : Nat) : Int)
    · have h2 : (j - at_).toNat = k := by omega
      rw [if_pos ⟨rfl, by omega⟩, if_pos ⟨rfl, h⟩, h2]
    · rw [if_neg (c := _ ∧ j = _) (fun hc => h hc.2)]
      by_cases h1 : (at_ : Int) ≤ j ∧ j < at_ + (k : Nat)
      · rw [if_pos ⟨rfl, by omega⟩, if_pos ⟨rfl, h1⟩]
      · rw [if_neg (by omega), if_neg (fun hc => h1 hc.2)]
theorem DM.wrote_old (d : DM) (fails : Bool) (at_ : Nat) (l : List UInt8) (k : Nat) : (d.wrote fails at_ l k).since ((at_ + k : Nat) : Int) = d.since ((at_ + k : Nat) : Int) :=
  if_neg (by omega)

theorem DM.Ok.wrote {d : DM} (h : d.Ok) (fails : Bool) (at_ : Nat) (l : List UInt8) (m k : Nat) (hl : l.length = 512 * m) (hk : k ≤ m) (hm : at_ + m ≤ d.size) : (d.stepped.wrote fails at_ l k).Ok := by
  have hb : ∀ j : Int, (at_ : Int) ≤ j ∧ j < at_ + k → (blkOf l (j - at_).toNat).length = 512 := fun j hj => blkOf_length l m _ hl (by omega)
  refine ⟨h.pos, h.most, h.lasting, ?_, ?_⟩
  · intro j x hx
    simp only [DM.wrote] at hx
    split at hx
    · rename_i hc; cases hx; exact ⟨hb j hc.2, by omega, by simp only [DM.wrote, DM.stepped]; omega⟩
    · exact h.seen j x hx
  · intro j x hx
    simp only [DM.wrote] at hx
    split at hx
    · rename_i hc; cases hx
      cases hd : d.stepped.since j with
      | none =>
        simp only [DM.wrote, DM.stepped, Option.getD_none, List.nil_append, List.length_cons, List.length_nil, List.mem_singleton]
        exact ⟨by omega, by omega, by omega, by omega, fun z hz => by rw [hz]; exact hb j hc⟩
      | some y =>
        obtain ⟨a1, a2, a3, a4, a5⟩ := h.since j y hd
        simp only [DM.wrote, DM.stepped, Option.getD_some, List.length_append, List.length_cons, List.length_nil, List.mem_append, List.mem_singleton]
        refine ⟨by omega, by omega, by omega, by omega, ?_⟩
        rintro z (hz | rfl)
        · exact a5 z hz
        · exact hb j hc
    · exact h.stepped.since j x hx

/-- A slice's block is none of F. -/
def OffF (F : Nat → Prop) (v : Value) : Prop := ∀ g, v.ownBlock = some g → ¬ F g

theorem RdB.touch {S : Nat → Prop} {w w' : World} {v : Value} {l : List UInt8} (h : RdB w v l) (g : Touch S w w') (hs : l ≠ [] → OffF S v) : RdB w' v l := by
  obtain ⟨a, cap, rfl, h1, h2⟩ := h
  refine ⟨a, cap, rfl, h1, fun ad had => ⟨(h2 ad had).1, fun i b hi => ?_⟩⟩
  subst had
  exact g.cell ((h2 ad rfl).2 i b hi) (hs (fun e => by rw [e] at hi; simp at hi) _ rfl)

/-- A block is put behind those that were written since. -/
theorem DiskAt.pushed {w w4 w5 w6 : World} {F : Nat → Prop} {a : Nat} {d : DM} {L M C X : Nat} {mc : Int → Option Value} (h : DiskAt w F a d L M C X mc) (n : Int) (v0 v' : Value) (hv0 : (mc n).getD (.slice none 0 0) = v0) (l0 : List (List UInt8)) (x : List UInt8)
    (h4 : Below w.heap.size w w4) (h5 : Touch (fun b => v0.ownBlock = some b) w4 w5) (h6 : Touch (fun b => b = C) w5 w6) (hm : IntMap w6 C (updI mc n v'))
    (hb0 : ∀ g, v0.ownBlock = some g → g ∉ [a, L, M, C, X]) (hF0 : ∀ g, v0.ownBlock = some g → F g)
    (hown : w5.ownsRow 0 69 512 v' (l0.length + 1) (l0.flatMap bcells ++ bcells x)) (hblk : v'.ownBlock = v0.ownBlock ∨ v'.ownBlock = some w4.heap.size) (hfresh : F w4.heap.size)
    (s' : Int → Option (List (List UInt8))) (hs1 : s' n = some (l0 ++ [x])) (hs2 : ∀ k, k ≠ n → s' k = d.since k) : DiskAt w6 F a { d with since := s' } L M C X (updI mc n v') := by
  have hC : C ∈ [a, L, M, C, X] := by simp
  have hlt : ∀ b ∈ [a, L, M, C, X], b < w.heap.size := by
    intro b hb
    simp only [List.mem_cons, List.not_mem_nil, or_false] at hb
    rcases hb with rfl | rfl | rfl | rfl | rfl
    · exact h.lt
    · exact h.lasting.lt
    · exact h.seen.lt
    · exact h.since.lt
    · exact h.fails.lt
  have keep : ∀ b, b < w.heap.size → v0.ownBlock ≠ some b → b ≠ C → w6.heap[b]? = w.heap[b]? := fun b hb h1 h2 => by
    have hb4 : b < w4.heap.size := Nat.lt_of_lt_of_le hb h4.size
    rw [h6.block b (Nat.lt_of_lt_of_le hb4 h5.size) h2, h5.block b hb4 h1, h4.block b hb]
  have keepL : ∀ b ∈ [a, L, M, C, X], b ≠ C → w6.heap[b]? = w.heap[b]? := fun b hb hne => keep b (hlt b hb) (fun e => hb0 b e hb) hne
  have hnd := h.nodup
  have hne : a ≠ C ∧ L ≠ C ∧ M ≠ C ∧ X ≠ C := by
    simp only [List.nodup_cons, List.mem_cons, List.not_mem_nil, or_false, not_or] at hnd
    omega
  refine ⟨(keepL a (by simp) hne.1).trans h.cells, h.nodup, h.foot, h.lasting.of_heap (keepL L (by simp) hne.2.1), h.seen.of_heap (keepL M (by simp) hne.2.2.1), h.fails.of_heap (keepL X (by simp) hne.2.2.2), hm, ⟨?_, ?_⟩⟩
  · intro k
    by_cases hk : k = n
    · subst hk
      refine .inr ⟨v', l0 ++ [x], by simp [updI], hs1, ?_, ?_⟩
      · have e1 : (l0 ++ [x]).length = l0.length + 1 := by simp
        have e2 : (l0 ++ [x]).flatMap bcells = l0.flatMap bcells ++ bcells x := by simp
        rw [e1, e2]
        refine ownsRow_heap hown fun g hg => h6.block g (hown.lt g hg).2 ?_
        rcases hblk with e | e
        · rw [e] at hg; exact fun e' => hb0 g hg (by rw [e']; exact hC)
        · rw [e] at hg; cases hg; have := hlt C hC; have := h4.size; omega
      · intro g hg
        rcases hblk with e | e
        · rw [e] at hg; exact ⟨hF0 g hg, hb0 g hg⟩
        · rw [e] at hg; cases hg
          exact ⟨hfresh, fun hmem => by have := hlt _ hmem; have := h4.size; omega⟩
    · have hu : updI mc n v' k = mc k := by simp [updI, hk]
      rcases h.sinceAt.one k with ⟨m1, s1⟩ | ⟨v1, l1, m1, s1, o1, b1⟩
      · exact .inl ⟨by rw [hu]; exact m1, (hs2 k hk).trans s1⟩
      · refine .inr ⟨v1, l1, by rw [hu]; exact m1, (hs2 k hk).trans s1, ownsRow_heap o1 fun g hg => keep g (o1.lt g hg).2 ?_ (fun e => (b1 g hg).2 (by rw [e]; exact hC)), b1⟩
        intro e
        have hmn : mc n = some v0 := by
          cases hmm : mc n with
          | none => rw [hmm] at hv0; subst hv0; cases e
          | some u => rw [hmm] at hv0; simpa using hv0
        exact hk (h.sinceAt.apart k n v1 v0 g m1 hmn hg e)
  · have low : ∀ k v g, mc k = some v → v.ownBlock = some g → g < w.heap.size := fun k v g hk hg => by
      rcases h.sinceAt.one k with ⟨m1, _⟩ | ⟨v1, l1, m1, s1, o1, b1⟩
      · rw [hk] at m1; cases m1
      · rw [hk] at m1; cases m1; exact (o1.lt g hg).2
    have one : ∀ k v g, k ≠ n → mc k = some v → v'.ownBlock = some g → v.ownBlock = some g → False := fun k v g hk hm1 hg' hg => by
      rcases hblk with e | e
      · rw [e] at hg'
        have hmn : mc n = some v0 := by
          cases hmm : mc n with
          | none => rw [hmm] at hv0; subst hv0; cases hg'
          | some u => rw [hmm] at hv0; simpa using hv0
        exact hk (h.sinceAt.apart k n v v0 g hm1 hmn hg hg')
      · rw [e] at hg'; cases hg'
        have := low k v _ hm1 hg; have := h4.size; omega
    intro k k' u u' g hk hk' hg hg'
    unfold updI at hk hk'
    split at hk <;> split at hk'
    · omega
    · rename_i e1 e2; cases hk; exact (one k' u' g e2 hk' hg hg').elim
    · rename_i e1 e2; cases hk'; exact (one k u g e1 hk hg' hg).elim
    · exact h.sinceAt.apart k k' u u' g hk hk' hg hg'

/-- A block is put among those that are read. -/
theorem DiskAt.put {w w' : World} {F : Nat → Prop} {a : Nat} {d : DM} {L M C X : Nat} {mc : Int → Option Value} (h : DiskAt w F a d L M C X mc) (h1 : Touch (fun b => b = M) w w') (s' : Int → Option (List UInt8))
    (hm : IntMap w' M (fun k => (s' k).map blkV)) : DiskAt w' F a { d with seen := s' } L M C X mc := by
  have hnd := h.nodup
  have hne : a ≠ M ∧ L ≠ M ∧ C ≠ M ∧ X ≠ M := by
    simp only [List.nodup_cons, List.mem_cons, List.not_mem_nil, or_false, not_or] at hnd
    omega
  exact ⟨h1.heap h.cells hne.1, h.nodup, h.foot, h.lasting.touch h1 hne.2.1, hm, h.fails.touch h1 hne.2.2.2, h.since.touch h1 hne.2.2.1,
    h.sinceAt.touch h1 fun b _ hb e => hb (by rw [e]; simp)⟩

/-- A store of a whole block. -/
theorem run_store_blk {W : World} {b : Nat} {cs : Array Value} {l : List UInt8} (h : W.heap[b]? = some (.cells cs 69 (0, 0))) (hs : cs.size = 512) (hl : l.length = 512) :
    ∃ W', (storeVar 69 ⟨b, 0, none⟩ (blkV l)).run Try.prog W = .ok () W' ∧ Touch (fun x => x = b) W W' ∧ W'.heap[b]? = some (.cells (bcells l).toArray 69 (0, 0)) := by
  have hst := run_storeCells_at Try.prog b 0 69 (bcells l) 0 cs W h (by have := bcells_length l; omega) (by intro v hv; simp only [bcells, List.mem_map] at hv; obtain ⟨b, _, rfl⟩ := hv; rfl)
  refine ⟨W.setRow b (cs.toList.take (0 + 0) ++ bcells l ++ cs.toList.drop (0 + 0 + (bcells l).length)).toArray, ?_, ?_, ?_⟩
  · unfold storeVar blkV
    simp only [Sem.run_bind, Try.sizeOf69, Result.andThen_ok, Value.cells, List.size_toArray, bcells_length, hl]
    simp only [ne_eq, not_true, if_false, hst, bcells_length, hl]
  · exact ⟨rfl, rfl, rfl, by simp, fun x _ hne => setRow_other _ _ _ _ hne⟩
  · rw [setRow_heap _ _ _ _ _ _ h]
    have : cs.toList.drop (0 + 0 + (bcells l).length) = [] := List.drop_eq_nil_of_le (by rw [bcells_length, hl]; simp; omega)
    rw [this]; simp
theorem run_load_blk {W : World} {b : Nat} {l : List UInt8} (h : W.heap[b]? = some (.cells (bcells l).toArray 69 (0, 0))) (hl : l.length = 512) :
    (loadVar 69 ⟨b, 0, none⟩).run Try.prog W = .ok (blkV l) W :=
  run_loadVar_row W b 69 69 _ (0, 0) _ h Try.underlying69 rfl (by rw [List.size_toArray, bcells_length, hl]; kernel_rfl)

set_option maxRecDepth 100000 in
set_option maxHeartbeats 1000000 in
theorem write_ok {w : World} {F : Nat → Prop} {a : Nat} {d : DM} (hd : Disk w F a d) (hF : ∀ b, F b → b < w.heap.size) (hst : d.steps < 1073741824) (sa : Option Addr) (sn sc : Nat) (l : List UInt8) (hrd : RdB w (.slice sa sn sc) l) (hoff : l ≠ [] → OffF F (.slice sa sn sc))
    (at_ m : Nat) (hl : l.length = 512 * m) (hm : at_ + m ≤ d.size) :
    Calls Try.prog 16 #[.pointer (some ⟨a, 0, none⟩), .int .i64 (at_ : Int), .slice sa sn sc] w fun e w' =>
      e = .returned (.int .i64 (if d.failing then 300 else 0)) ∧ Disk w' (fun b => F b ∨ w.heap.size ≤ b) a (d.stepped.wrote d.failing at_ l m) ∧ Touch F w w' := by
  have hsn : sn = l.length := by obtain ⟨_, _, h, _⟩ := hrd; cases h; rfl
  have hmost := hd.1.most
  have hrem : (sn : Int) % 512 = 0 := by omega
  have hat : (at_ : Int) ≤ (d.size : Int) := by omega
  have hquo : ¬ ((sn : Int) / 512 > (d.size : Int) - at_) := by omega
  have hc0 := hd.c0
  have c0 : (w.alloc (.cells #[.pointer (some ⟨a, 0, none⟩)] 25)).cell? ⟨a, 0, none⟩ = some (.int .i64 (d.size : Int)) := belowCell ((Below.refl w.heap.size w).alloc (Nat.le_refl _) _) (ltOf hc0) hc0
  have hd1 : Disk (w.alloc (.cells #[.pointer (some ⟨a, 0, none⟩)] 25)) F a d := hd.below ((Below.refl w.heap.size w).alloc (Nat.le_refl _) _)
  have hsz2 : (d.size : Int) ≤ 65536 := by omega
  have hle : (sn : Int) ≤ 140737488355328 := by omega
  refine calls_of_wp_marks Try.func16 rfl ?_
  simp only [Try.ntmps16, List.size_toArray, List.length_cons, List.length_nil, Nat.reduceAdd, Nat.reduceSub, Array.replicate_succ, Array.replicate_zero, List.push_toArray, List.append_toArray, List.nil_append, List.cons_append]
  go_wp2_with (first
    | (go_at_call 28; refine (none_disk hd1).mono ?_; rintro e w' ⟨rfl, rfl⟩)
    | (go_at_call 43; refine (step_any hd1 hst).mono ?_; rintro e w2 ⟨rfl, hd2, ht2, hs2⟩; have Hs2 := Lib.hid hs2; clear hs2)
    | (go_at_call 44; refine (blocks_any _ _ _ _ _).mono ?_; rintro e w' ⟨rfl, rfl⟩))
  generalize hw3 : ((w2.alloc _).alloc _).alloc _ = w3
  have hn2 : w.heap.size < w2.heap.size := by have := ht2.size; simp at this; omega
  have hs3 : w3.heap.size ≤ w2.heap.size + 3 := by rw [← hw3]; simp
  have hs3' : w2.heap.size + 3 ≤ w3.heap.size := by rw [← hw3]; simp
  have hb3 : Below w2.heap.size w2 w3 := by rw [← hw3]; exact (((Below.refl _ _).alloc (Nat.le_refl _) _).alloc (by simp) _).alloc (by simp; omega) _
  have c7 : w3.cell? ⟨w2.heap.size, 0, none⟩ = some (.bool d.failing) := by rw [← hw3]; simp [go_sem]
  have cA : w3.cell? ⟨w2.heap.size + 1, 0, none⟩ = some (.int .i64 (at_ : Int)) := by rw [← hw3]; simp [go_sem]
  have cB : w3.cell? ⟨w2.heap.size + 2, 0, none⟩ = some (.slice sa sn sc) := by rw [← hw3, hsn, hl]; simp [go_sem]
  clear hw3
  have haF : F a := by obtain ⟨_, L, M, C, X, mc, h⟩ := hd; exact h.foot a (by simp)
  have c3 : w3.cell? ⟨w.heap.size, 0, none⟩ = some (.pointer (some ⟨a, 0, none⟩)) := by
    have h1 : (w.alloc (.cells #[.pointer (some ⟨a, 0, none⟩)] 25)).cell? ⟨w.heap.size, 0, none⟩ = some (.pointer (some ⟨a, 0, none⟩)) := by simp [go_sem]
    exact belowCell hb3 hn2 (ht2.cell h1 (by have := hF a haF; omega))
  have hT3 : Touch F w w3 := (((Touch.refl F w).alloc _).step ht2 (fun b hb e => by rw [e]; exact haF)).grow hb3
  have hd3 : Disk w3 (fun b => F b ∨ w3.heap.size + 2 ≤ b) a d.stepped := (hd2.below hb3).mono fun b hb => .inl hb
  refine wp_range (gf := 54) (gfn := Try.f54) (lb := #[.pointer (some ⟨w2.heap.size + 2, 0, none⟩), .pointer (some ⟨w2.heap.size + 1, 0, none⟩)]) rfl Try.func54 rfl rfl
    (iter_blocks (w2.heap.size + 2) (w2.heap.size + 1) at_ (.slice sa sn sc) l m hl (by omega) (by omega)) (fun _ => rfl)
    (fun pre W => Disk W (fun b => F b ∨ w3.heap.size + 2 ≤ b) a (d.stepped.wrote d.failing at_ l pre.length) ∧ W.cell? ⟨w.heap.size, 0, none⟩ = some (.pointer (some ⟨a, 0, none⟩)) ∧ W.cell? ⟨w2.heap.size, 0, none⟩ = some (.bool d.failing) ∧
      W.cell? ⟨w2.heap.size + 1, 0, none⟩ = some (.int .i64 (at_ : Int)) ∧ W.cell? ⟨w2.heap.size + 2, 0, none⟩ = some (.slice sa sn sc) ∧ Touch F w W)
    (fun _ _ => False) (fun b => F b ∨ w3.heap.size + 2 ≤ b) (fun b hb => by rcases hb with hb | hb; exact .inl (by have := hF b hb; omega); exact .inr (by omega)) ?h0 ?hpre ?hkeep ?hput ?hputx ?hround ?hdone ?hstop
  case h0 =>
    intro W hB hsz
    refine ⟨?_, belowCell hB (by omega) c3, belowCell hB (by omega) c7, belowCell hB (by omega) cA, belowCell hB (by omega) cB, hT3.grow hB⟩
    rw [List.length_nil, DM.wrote_zero]; exact hd3.below hB
  case hpre => exact fun pre W ⟨h1, h2, h3, h4, h5, h6⟩ => ⟨h5, hrd.touch h6 hoff, h4⟩
  case hkeep =>
    rintro pre W W' ⟨h1, h2, h3, h4, h5, h6⟩ hs hk
    have hk' : Touch (fun _ => False) W W' := hk.mono fun b _ h => by omega
    exact ⟨h1.touch hk' (by simp), hk'.cell h2 (by simp), hk'.cell h3 (by simp), hk'.cell h4 (by simp), hk'.cell h5 (by simp), h6.step hk' (fun _ _ h => h.elim)⟩
  case hput =>
    rintro pre W o ⟨h1, h2, h3, h4, h5, h6⟩
    have hp : Touch (fun b => b = w3.heap.size + 1) W (W.putObj (w3.heap.size + 1) o) := (Touch.refl _ _).putObj (.inl (by exact rfl)) o
    refine ⟨h1.touch hp ?_, hp.cell h2 (by omega), hp.cell h3 (by omega), hp.cell h4 (by omega), hp.cell h5 (by omega), h6.step hp (fun b hb e => by omega)⟩
    rintro b (hb | hb) e
    · have := hF b hb; omega
    · omega
  case hputx => exact fun _ _ _ h => h
  case hstop => exact fun _ _ h => h.elim
  case hdone =>
    rintro xs W rfl ⟨h1, h2, h3, h4, h5, h6⟩ hD
    have hx : (blksAt at_ l m).length = m := by simp [blksAt]
    rw [hx] at h1
    have hfin : Disk (W.putObj w3.heap.size (.deferred none)) (fun b => F b ∨ w.heap.size ≤ b) a (d.stepped.wrote d.failing at_ l m) ∧ Touch F w (W.putObj w3.heap.size (.deferred none)) := by
      have hp : Touch (fun b => b = w3.heap.size) W (W.putObj w3.heap.size (.deferred none)) := (Touch.refl _ _).putObj (.inl (by exact rfl)) _
      refine ⟨(h1.touch hp ?_).mono ?_, h6.step hp (fun b hb e => by omega)⟩
      · rintro b (hb | hb) e
        · have := hF b hb; omega
        · omega
      · rintro b (hb | hb)
        · exact .inl hb
        · exact .inr (by omega)
    have Hf := Lib.hid hfin
    clear hfin h1 h6 hrd hd hd1 hd2 hd3
    go_wp2
    all_goals
      rename_i hfl
      have hf := Hf.out
      rw [hfl] at hf
      exact leave_mark hD (results_tmp rfl _ _ _) ⟨rfl, hf.1, hf.2⟩
  case hround =>
    rintro r r' pre x W ⟨k, hk, hpx⟩ ⟨h1, h2, h3, h4, h5, h6⟩ hsz hr
    have hlen : pre.length + 1 = k := by have := congrArg List.length hpx; simpa [blksAt] using this
    have hx : x = (at_ + pre.length, blkOf l pre.length) := by
      subst hlen; rw [blksAt_succ] at hpx; exact (List.cons.inj (List.append_inj' hpx rfl).2).1
    subst hx
    have hbl := blkOf_length l m pre.length hl (by omega)
    have hN : (W.alloc (.cells Try.zeroCells69 69)).heap[W.heap.size]? = some (.cells Try.zeroCells69 69 (0, 0)) := heap_alloc_new _ _
    obtain ⟨W1, hst1, hT1, hN1⟩ := run_store_blk hN zero_size hbl
    have hTW : Touch (fun _ => False) W W1 := ((Touch.refl _ _).alloc _).step hT1 (fun b hb e => by omega)
    have Hpx := Lib.hid hpx
    have Hlen := Lib.hid hlen
    clear hpx hlen
    refine wpIn_seq_k (fun K1 hK1 => ?_)
    refine round_region (by kernel_rfl) ?_
    go_wp2
    refine hK1 _ _ ?_
    refine round_region (by kernel_rfl) ?_
    go_wp2_with (refine wpList_store (v := blkV (blkOf l pre.length)) rfl 69 _ _ _ rfl rfl rfl hst1 ?_)
    refine ⟨hTW, hTW.heap hr (by simp), fun w₂ hw2 => ?_⟩
    have hp : Touch (fun b => b = w3.heap.size + 1) W w₂ := by rw [hw2]; exact (hTW.mono (fun _ _ h => h.elim)).trans ((Touch.refl _ _).putObj (.inl (by exact rfl)) _)
    obtain ⟨ok4, L, M, C, X, mc, hA1⟩ := h1
    have hA4 := hA1.touch hp (by rintro b (hb | hb) e <;> first | (have := hF b hb; omega) | omega)
    have e3 : w₂.cell? ⟨w.heap.size, 0, none⟩ = some (.pointer (some ⟨a, 0, none⟩)) := hp.cell h2 (by omega)
    have e7 : w₂.cell? ⟨w2.heap.size, 0, none⟩ = some (.bool d.failing) := hp.cell h3 (by omega)
    have eA : w₂.cell? ⟨w2.heap.size + 1, 0, none⟩ = some (.int .i64 (at_ : Int)) := hp.cell h4 (by omega)
    have eB : w₂.cell? ⟨w2.heap.size + 2, 0, none⟩ = some (.slice sa sn sc) := hp.cell h5 (by omega)
    have hT4 : Touch F w w₂ := h6.step hp (fun b hb e => by omega)
    have hX : w₂.heap[W.heap.size]? = some (.cells (bcells (blkOf l pre.length)).toArray 69 (0, 0)) := by rw [hw2, World.putObj_heap_other (by omega)]; exact hN1
    have hXlt : W.heap.size < w₂.heap.size := (Array.getElem?_eq_some_iff.1 hX).1
    clear hw2 h2 h3 h4 h5 h6 hst1 hT1 hN1 hTW hN hr
    obtain ⟨l0, hl0, hl0s, hown0, hblk0⟩ : ∃ l0, (d.stepped.since ((at_ : Int) + pre.length)).getD [] = l0 ∧ l0.length ≤ 1073741824 ∧
        w₂.ownsRow 0 69 512 ((mc ((at_ : Int) + pre.length)).getD (.slice none 0 0)) l0.length (l0.flatMap bcells) ∧
        ∀ g, ((mc ((at_ : Int) + pre.length)).getD (.slice none 0 0)).ownBlock = some g → (F g ∨ w3.heap.size + 2 ≤ g) ∧ g ∉ [a, L, M, C, X] ∧ g < W.heap.size := by
      have h0 := hA1.sinceAt.one ((at_ + pre.length : Nat) : Int)
      have hold := DM.wrote_old d.stepped d.failing at_ l pre.length
      rw [Int.natCast_add] at h0 hold
      rcases h0 with ⟨m0, s0⟩ | ⟨v1, l1, m1, s1, o1, b1⟩
      · refine ⟨[], by rw [← hold, s0]; rfl, by simp, by rw [m0]; exact World.ownsRow_nil _ _ _ _, fun g hg => ?_⟩
        rw [m0] at hg; cases hg
      · refine ⟨l1, by rw [← hold, s1]; rfl, by
          have h5 := (ok4.since _ _ s1).2.2.2.1
          have h6 : (d.stepped.wrote d.failing at_ l pre.length).steps = d.steps + 1 := rfl
          omega, by rw [m1]; exact ownsRow_heap o1 (fun g hg => hp.block g (o1.lt g hg).2 (by intro e; rcases (b1 g hg).1 with h | h <;> first | (have := hF _ h; omega) | omega)), fun g hg => ?_⟩
        rw [m1] at hg; exact ⟨(b1 g hg).1, (b1 g hg).2, (o1.lt g hg).2⟩
    clear hp
    generalize hv0 : (mc ((at_ : Int) + pre.length)).getD (.slice none 0 0) = v0 at *
    have cC : w₂.cell? ⟨a, 3, none⟩ = some (.map (some C)) := cellOf hA4.cells rfl
    have hlk : ∀ W', (W'.cell? ⟨w.heap.size, 0, none⟩ = some (.pointer (some ⟨a, 0, none⟩)) ∧ W'.cell? ⟨a, 3, none⟩ = some (.map (some C)) ∧ IntMap W' C mc ∧ W'.heap[W.heap.size]? = some (.cells (bcells (blkOf l pre.length)).toArray 69 (0, 0))) →
        (Instr.lookup 49 (.map (some C)) (.int .i64 ((at_ : Int) + pre.length)) false).run Try.prog W' = .ok v0 W' := by
      intro W' h
      have := run_lookup_int (P := Try.prog) h.2.2.1 Try.underlying49 Try.underlying3 Try.zeroValue74 ((at_ : Int) + pre.length)
      rw [← hv0]; exact this
    have hf3 : ∀ W' : World, (Instr.fieldAt 52 (.pointer (some ⟨a, 0, none⟩)) 3).run Try.prog W' = .ok (.pointer (some ⟨a, 3, none⟩)) W' := by intro W'; simp [go_sem]
    refine wpIn_block ?_
    refine wpIn_seq_k (fun K2 hK2 => ?_)
    refine round_region_draws (fun W' => W'.cell? ⟨w.heap.size, 0, none⟩ = some (.pointer (some ⟨a, 0, none⟩)) ∧ W'.cell? ⟨a, 3, none⟩ = some (.map (some C)) ∧ IntMap W' C mc ∧ W'.heap[W.heap.size]? = some (.cells (bcells (blkOf l pre.length)).toArray 69 (0, 0)))
      (by kernel_rfl) (by kernel_rfl) ⟨e3, cC, hA4.since, hX⟩ (fun hS0 => ?_)
    refine take 0 48 (v := .pointer (some ⟨a, 0, none⟩)) rfl rfl (by kernel_rfl) (by kernel_rfl) (by kernel_rfl) rfl (fun W hW => exec_load rfl rfl (run_load1 (w := W) Try.underlying25 rfl hW.1)) hS0 ?_
    simp only [Act.put, List.setIfInBounds_toArray, List.set_cons_zero, List.set_cons_succ]
    refine take 1 49 (v := .pointer (some ⟨a, 0, none⟩)) rfl rfl (by kernel_rfl) (by kernel_rfl) (by kernel_rfl) rfl (fun W hW => rfl) hS0 ?_
    simp only [Act.put, List.setIfInBounds_toArray, List.set_cons_zero, List.set_cons_succ]
    refine take 2 50 (v := .pointer (some ⟨a, 3, none⟩)) rfl rfl (by kernel_rfl) (by kernel_rfl) (by kernel_rfl) rfl (fun W hW => exec_fieldAddr rfl rfl (hf3 W)) hS0 ?_
    simp only [Act.put, List.setIfInBounds_toArray, List.set_cons_zero, List.set_cons_succ]
    refine take 3 51 (v := .map (some C)) rfl rfl (by kernel_rfl) (by kernel_rfl) (by kernel_rfl) rfl (fun W hW => exec_load rfl rfl (run_load1 (w := W) Try.underlying49 rfl hW.2.1)) hS0 ?_
    simp only [Act.put, List.setIfInBounds_toArray, List.set_cons_zero, List.set_cons_succ]
    refine take 4 52 (v := .int .i64 ((at_ : Int) + pre.length)) rfl rfl (by kernel_rfl) (by kernel_rfl) (by kernel_rfl) rfl (fun W hW => rfl) hS0 ?_
    simp only [Act.put, List.setIfInBounds_toArray, List.set_cons_zero, List.set_cons_succ]
    refine take 5 53 (v := .pointer (some ⟨a, 0, none⟩)) rfl rfl (by kernel_rfl) (by kernel_rfl) (by kernel_rfl) rfl (fun W hW => exec_load rfl rfl (run_load1 (w := W) Try.underlying25 rfl hW.1)) hS0 ?_
    simp only [Act.put, List.setIfInBounds_toArray, List.set_cons_zero, List.set_cons_succ]
    refine take 6 54 (v := .pointer (some ⟨a, 0, none⟩)) rfl rfl (by kernel_rfl) (by kernel_rfl) (by kernel_rfl) rfl (fun W hW => rfl) hS0 ?_
    simp only [Act.put, List.setIfInBounds_toArray, List.set_cons_zero, List.set_cons_succ]
    refine take 7 55 (v := .pointer (some ⟨a, 3, none⟩)) rfl rfl (by kernel_rfl) (by kernel_rfl) (by kernel_rfl) rfl (fun W hW => exec_fieldAddr rfl rfl (hf3 W)) hS0 ?_
    simp only [Act.put, List.setIfInBounds_toArray, List.set_cons_zero, List.set_cons_succ]
    refine take 8 56 (v := .map (some C)) rfl rfl (by kernel_rfl) (by kernel_rfl) (by kernel_rfl) rfl (fun W hW => exec_load rfl rfl (run_load1 (w := W) Try.underlying49 rfl hW.2.1)) hS0 ?_
    simp only [Act.put, List.setIfInBounds_toArray, List.set_cons_zero, List.set_cons_succ]
    refine take 9 57 (v := .int .i64 ((at_ : Int) + pre.length)) rfl rfl (by kernel_rfl) (by kernel_rfl) (by kernel_rfl) rfl (fun W hW => rfl) hS0 ?_
    simp only [Act.put, List.setIfInBounds_toArray, List.set_cons_zero, List.set_cons_succ]
    refine take 10 58 (v := v0) rfl rfl (by kernel_rfl) (by kernel_rfl) (by kernel_rfl) rfl (fun W hW => exec_lookup rfl rfl rfl (hlk W hW)) hS0 ?_
    simp only [Act.put, List.setIfInBounds_toArray, List.set_cons_zero, List.set_cons_succ]
    refine take 11 59 (v := blkV (blkOf l pre.length)) rfl rfl (by kernel_rfl) (by kernel_rfl) (by kernel_rfl) rfl (fun W hW => exec_load rfl rfl (run_load_blk hW.2.2.2 hbl)) hS0 ?_
    simp only [Act.put, List.setIfInBounds_toArray, List.set_cons_zero, List.set_cons_succ]
    have hbs := run_buildSlice_one (P := Try.prog) (w := w₂.drew) (v := blkV (blkOf l pre.length)) Try.underlying74 Try.sizeOf69 Try.zeroValue69 (by simp [blkV, Value.cells, bcells_length, hbl]) (by omega) (by omega)
    have hB4 : Below w₂.heap.size w₂ (w₂.drew.alloc (.cells (blkV (blkOf l pre.length)).cells 69)) := (Below.refl _ _).drew.alloc (Nat.le_refl _) _
    have hN4 : (w₂.drew.alloc (.cells (blkV (blkOf l pre.length)).cells 69)).heap[w₂.heap.size]? = some (.cells (bcells (blkOf l pre.length)).toArray 69 (0, 0)) := heap_alloc_new _ _
    generalize w₂.drew.alloc (.cells (blkV (blkOf l pre.length)).cells 69) = w4 at *
    refine onlyRun 12 60 rfl rfl (by kernel_rfl) rfl (exec_buildSlice1 (u := blkV (blkOf l pre.length)) rfl rfl hbs) (.inr ⟨belowCell hB4 (ltOf e3) e3, belowCell hB4 (ltOf cC) cC, hA4.since.grow hB4, belowBlk hB4 hXlt hX⟩) ?_
    simp only [Act.put, List.setIfInBounds_toArray, List.set_cons_zero, List.set_cons_succ]
    obtain ⟨i0, hi0, hiz, his, hib⟩ := info_parts (P := Try.prog) (e := 69) (z := .agg Try.zeroCells69) (size := 512) (bytes := 512) (by kernel_rfl)
    obtain ⟨v', w5, happ, hown', hT5, hblk', hsz5⟩ := append_law (P := Try.prog) (w := w4) 74 74 69 _ _ 512 512 Try.underlying74 hi0 hiz his hib zero_size
      v0 l0.length (l0.flatMap bcells) (ownsRow_heap hown0 fun g hg => hB4.block g (hown0.lt g hg).2) ⟨w₂.heap.size, 0, none⟩ 1 1 (bcells (blkOf l pre.length)) (by rw [bcells_length, hbl]) (by
        intro j u hu
        rw [addr_add, Nat.zero_add, cell_of_row _ _ _ _ _ _ hN4]; simpa using hu)
      (by intro u hu; simp only [bcells, List.mem_map] at hu; obtain ⟨b, _, rfl⟩ := hu; rfl) (by unfold maxLen; omega) (by omega)
    have hS5 : w5.cell? ⟨w.heap.size, 0, none⟩ = some (.pointer (some ⟨a, 0, none⟩)) ∧ w5.cell? ⟨a, 3, none⟩ = some (.map (some C)) ∧ IntMap w5 C mc ∧ w5.heap[W.heap.size]? = some (.cells (bcells (blkOf l pre.length)).toArray 69 (0, 0)) := by
      refine ⟨hT5.cell (belowCell hB4 (ltOf e3) e3) ?_, hT5.cell (belowCell hB4 (ltOf cC) cC) (fun e => (hblk0 _ e).2.1 (by simp)), (hA4.since.grow hB4).touch hT5 (fun e => (hblk0 _ e).2.1 (by simp)), hT5.heap (belowBlk hB4 hXlt hX) ?_⟩
      · intro e; have := (hblk0 _ e).1; have h3 := ltOf c3; rcases this with h | h
        · have := hF _ h; omega
        · omega
      · intro e; have := (hblk0 _ e).2.2; omega
    refine onlyRun 13 61 rfl rfl (by kernel_rfl) rfl (exec_append rfl rfl rfl happ) (.inr hS5) ?_
    simp only [Act.put, List.setIfInBounds_toArray, List.set_cons_zero, List.set_cons_succ]
    obtain ⟨hmu, hT6, hM6⟩ := run_mapPut (P := Try.prog) hS5.2.2.1 Try.underlying49 Try.underlying3 ((at_ : Int) + pre.length) v'
    generalize mapPut Try.prog 49 w5 C ((at_ : Int) + pre.length) v' = w6 at *
    refine onlySkip 14 rfl rfl (by kernel_rfl) rfl (exec_mapUpdate rfl rfl rfl rfl hmu) (.inl (by kernel_rfl)) ?_
    refine done (by kernel_rfl) ?_ _
    refine hK2 _ _ ?_
    have hd6 := hA4.pushed ((at_ : Int) + pre.length) v0 v' hv0 l0 (blkOf l pre.length) hB4 hT5 hT6 hM6 (fun g hg => (hblk0 g hg).2.1) (fun g hg => (hblk0 g hg).1) hown' hblk' (.inr (by have := hB4.size; omega))
      (d.stepped.wrote d.failing at_ l (pre.length + 1)).since (by
        rw [DM.wrote_since, if_pos (by omega), hl0]) (fun k hk => by rw [DM.wrote_since, if_neg (by omega)])
    have hT46 : Touch (fun b => F b ∨ w3.heap.size + 2 ≤ b) w₂ w6 := by
      refine (((Touch.refl _ _).grow hB4).step hT5 (fun b hb e => (hblk0 b e).1)).step hT6 (fun b hb e => ?_)
      rw [e]; exact hA4.foot C (by simp)
    have g3 : w6.cell? ⟨w.heap.size, 0, none⟩ = some (.pointer (some ⟨a, 0, none⟩)) := hT46.cell e3 (by have := ltOf c3; rintro (h | h) <;> first | (have := hF _ h; omega) | omega)
    have g7 : w6.cell? ⟨w2.heap.size, 0, none⟩ = some (.bool d.failing) := hT46.cell e7 (by rintro (h | h) <;> first | (have := hF _ h; omega) | omega)
    have gA : w6.cell? ⟨w2.heap.size + 1, 0, none⟩ = some (.int .i64 (at_ : Int)) := hT46.cell eA (by rintro (h | h) <;> first | (have := hF _ h; omega) | omega)
    have gB : w6.cell? ⟨w2.heap.size + 2, 0, none⟩ = some (.slice sa sn sc) := hT46.cell eB (by rintro (h | h) <;> first | (have := hF _ h; omega) | omega)
    have gX : w6.heap[W.heap.size]? = some (.cells (bcells (blkOf l pre.length)).toArray 69 (0, 0)) := (hT6.heap hS5.2.2.2 (by intro e; have := hA1.since.lt; omega))
    have hTw6 : Touch F w w6 := by
      refine ⟨hT46.os.trans hT4.os, hT46.tape.trans hT4.tape, hT46.output.trans hT4.output, Nat.le_trans hT4.size hT46.size, fun b hb hn => ?_⟩
      rw [hT46.block b (Nat.lt_of_lt_of_le hb hT4.size) (by rintro (h | h) <;> first | exact hn h | omega)]
      exact hT4.block b hb hn
    have hok5 : (d.stepped.wrote d.failing at_ l (pre ++ [(at_ + pre.length, blkOf l pre.length)]).length).Ok := hd.1.wrote d.failing at_ l m _ hl (by have := Hlen.out; simp; omega) hm
    have hlen1 : (pre ++ [(at_ + pre.length, blkOf l pre.length)]).length = pre.length + 1 := by simp
    rw [hlen1] at hok5
    have gB' : w6.cell? ⟨w2.heap.size + 2, 0, none⟩ = some (.slice sa (512 * m) sc) := by rw [gB, hsn, hl]
    clear hbs happ hmu hS5 hS0 hlk hblk' hown' hown0
    refine wpIn_seq_k (fun K3 hK3 => ?_)
    refine round_region (by kernel_rfl) ?_
    by_cases hfl : d.failing = true
    · have hfl' := hfl
      go_wp2
      refine hK3 _ _ ?_
      refine wpIn_cond_false rfl ?_
      refine wpIn_skip ?_
      refine ⟨hT46, ⟨hok5, L, M, C, X, updI mc ((at_ : Int) + pre.length) v', ?_⟩, g3, g7, gA, gB', hTw6⟩
      have hseen : (d.stepped.wrote d.failing at_ l (pre.length + 1)).seen = (d.stepped.wrote d.failing at_ l pre.length).seen := funext fun j => by rw [DM.wrote_seen, if_neg (by rw [hfl']; simp)]
      have e : d.stepped.wrote d.failing at_ l (pre.length + 1) = { d.stepped.wrote d.failing at_ l pre.length with since := (d.stepped.wrote d.failing at_ l (pre.length + 1)).since } := by
        have e0 : d.stepped.wrote d.failing at_ l (pre.length + 1) = { d.stepped.wrote d.failing at_ l pre.length with since := (d.stepped.wrote d.failing at_ l (pre.length + 1)).since, seen := (d.stepped.wrote d.failing at_ l (pre.length + 1)).seen } := rfl
        rw [e0, hseen]
      rw [e]; exact hd6
    · have hfl' : d.failing = false := by simpa using hfl
      go_wp2
      refine hK3 _ _ ?_
      refine wpIn_cond_true rfl ?_
      have cM : w6.cell? ⟨a, 2, none⟩ = some (.map (some M)) := cellOf hd6.cells rfl
      have hf2 : ∀ W' : World, (Instr.fieldAt 52 (.pointer (some ⟨a, 0, none⟩)) 2).run Try.prog W' = .ok (.pointer (some ⟨a, 2, none⟩)) W' := by intro W'; simp [go_sem]
      refine round_region_draws (fun W' => W'.cell? ⟨w.heap.size, 0, none⟩ = some (.pointer (some ⟨a, 0, none⟩)) ∧ W'.cell? ⟨a, 2, none⟩ = some (.map (some M)) ∧ W'.heap[W.heap.size]? = some (.cells (bcells (blkOf l pre.length)).toArray 69 (0, 0)))
        (by kernel_rfl) (by kernel_rfl) ⟨g3, cM, gX⟩ (fun hS1 => ?_)
      refine take 0 64 (v := .pointer (some ⟨a, 0, none⟩)) rfl rfl (by kernel_rfl) (by kernel_rfl) (by kernel_rfl) rfl (fun W hW => exec_load rfl rfl (run_load1 (w := W) Try.underlying25 rfl hW.1)) hS1 ?_
      simp only [Act.put, List.setIfInBounds_toArray, List.set_cons_zero, List.set_cons_succ]
      refine take 1 65 (v := .pointer (some ⟨a, 0, none⟩)) rfl rfl (by kernel_rfl) (by kernel_rfl) (by kernel_rfl) rfl (fun W hW => rfl) hS1 ?_
      simp only [Act.put, List.setIfInBounds_toArray, List.set_cons_zero, List.set_cons_succ]
      refine take 2 66 (v := .pointer (some ⟨a, 2, none⟩)) rfl rfl (by kernel_rfl) (by kernel_rfl) (by kernel_rfl) rfl (fun W hW => exec_fieldAddr rfl rfl (hf2 W)) hS1 ?_
      simp only [Act.put, List.setIfInBounds_toArray, List.set_cons_zero, List.set_cons_succ]
      refine take 3 67 (v := .map (some M)) rfl rfl (by kernel_rfl) (by kernel_rfl) (by kernel_rfl) rfl (fun W hW => exec_load rfl rfl (run_load1 (w := W) Try.underlying48 rfl hW.2.1)) hS1 ?_
      simp only [Act.put, List.setIfInBounds_toArray, List.set_cons_zero, List.set_cons_succ]
      refine take 4 68 (v := .int .i64 ((at_ : Int) + pre.length)) rfl rfl (by kernel_rfl) (by kernel_rfl) (by kernel_rfl) rfl (fun W hW => rfl) hS1 ?_
      simp only [Act.put, List.setIfInBounds_toArray, List.set_cons_zero, List.set_cons_succ]
      refine take 5 69 (v := blkV (blkOf l pre.length)) rfl rfl (by kernel_rfl) (by kernel_rfl) (by kernel_rfl) rfl (fun W hW => exec_load rfl rfl (run_load_blk hW.2.2 hbl)) hS1 ?_
      simp only [Act.put, List.setIfInBounds_toArray, List.set_cons_zero, List.set_cons_succ]
      have hM6d : IntMap w6.drew M (fun k => ((d.stepped.wrote d.failing at_ l pre.length).seen k).map blkV) := hd6.seen
      obtain ⟨hmu2, hT7, hM7⟩ := run_mapPut (P := Try.prog) hM6d Try.underlying48 Try.underlying3 ((at_ : Int) + pre.length) (blkV (blkOf l pre.length))
      generalize mapPut Try.prog 48 w6.drew M ((at_ : Int) + pre.length) (blkV (blkOf l pre.length)) = w7 at *
      refine onlySkip 6 rfl rfl (by kernel_rfl) rfl (exec_mapUpdate rfl rfl rfl rfl hmu2) (.inl (by kernel_rfl)) ?_
      refine done (by kernel_rfl) ?_ _
      have hT7' : Touch (fun b => b = M) w6 w7 := ⟨hT7.os, hT7.tape, hT7.output, hT7.size, hT7.block⟩
      have hFM := hA4.foot M (by simp)
      have hT27 : Touch (fun b => F b ∨ w3.heap.size + 2 ≤ b) w₂ w7 := hT46.step hT7' (fun b hb e => by rw [e]; exact hFM)
      have off : ∀ b, ¬ (F b ∨ w3.heap.size + 2 ≤ b) → ¬ b = M := fun b hb e => hb (by rw [e]; exact hFM)
      refine ⟨hT27, ⟨hok5, L, M, C, X, updI mc ((at_ : Int) + pre.length) v', ?_⟩, hT7'.cell g3 (off _ (by have := ltOf c3; rintro (h | h) <;> first | (have := hF _ h; omega) | omega)), hT7'.cell g7 (off _ (by rintro (h | h) <;> first | (have := hF _ h; omega) | omega)),
        hT7'.cell gA (off _ (by rintro (h | h) <;> first | (have := hF _ h; omega) | omega)), hT7'.cell gB' (off _ (by rintro (h | h) <;> first | (have := hF _ h; omega) | omega)), ?_⟩
      · have h8 := hd6.put hT7' (d.stepped.wrote d.failing at_ l (pre.length + 1)).seen (by
          have : (fun k => ((d.stepped.wrote d.failing at_ l (pre.length + 1)).seen k).map blkV) = updI (fun k => ((d.stepped.wrote d.failing at_ l pre.length).seen k).map blkV) ((at_ : Int) + pre.length) (blkV (blkOf l pre.length)) := by
            funext j
            rw [DM.wrote_seen]
            unfold updI
            by_cases hj : j = (at_ : Int) + pre.length
            · rw [if_pos ⟨hfl', by omega⟩, if_pos hj]; rfl
            · rw [if_neg (fun h => hj (by have := h.2; omega)), if_neg hj]
          rw [this]; exact hM7)
        exact h8
      · refine ⟨hT27.os.trans hT4.os, hT27.tape.trans hT4.tape, hT27.output.trans hT4.output, Nat.le_trans hT4.size hT27.size, fun b hb hn => ?_⟩
        rw [hT27.block b (Nat.lt_of_lt_of_le hb hT4.size) (by rintro (h | h) <;> first | exact hn h | omega)]
        exact hT4.block b hb hn
end Go.Proofs.Ytmgajgeoibbmjaa
