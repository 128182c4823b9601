/- The disk: what lies in memory, and the contracts of its functions that make no loop. -/
import Derived.Test.YtmgajgeoibbmjaaMaps
import Derived.Deep.RegionHeld3
namespace Go.Proofs.Ytmgajgeoibbmjaa
open Go.RowKit

/-- Bytes as cells. -/
def bcells (l : List UInt8) : List Value := l.map fun b => .int .u8 (b.toNat : Int)
theorem bcells_length (l : List UInt8) : (bcells l).length = l.length := by simp [bcells]
/-- A block as a value. -/
def blkV (l : List UInt8) : Value := .agg (bcells l).toArray
/-- A block of noughts. -/
def zblk : List UInt8 := List.replicate 512 0

/-- What a disk is: blocks that last, that are read, that were written since; the steps that fail; how many steps there were. -/
structure DM where
  size : Nat
  lasting : Int → Option (List UInt8)
  seen : Int → Option (List UInt8)
  since : Int → Option (List (List UInt8))
  fails : Int → Option Int
  steps : Nat

def DM.new (n : Nat) : DM := { size := n, lasting := fun _ => none, seen := fun _ => none, since := fun _ => none, fails := fun _ => none, steps := 0 }

/-- The cells of a disk at block a. -/
def diskCells (n L S C X : Nat) (st : Nat) : Array Value :=
  #[.int .i64 (n : Int), .map (some L), .map (some S), .map (some C), .map (some X), .int .i64 (st : Int)]

/-- Blocks written since: slices of blocks, each in memory of its own. -/
structure SinceAt (w : World) (F : Nat → Prop) (own : List Nat) (m : Int → Option Value) (s : Int → Option (List (List UInt8))) : Prop where
  one : ∀ k, (m k = none ∧ s k = none) ∨ ∃ v l, m k = some v ∧ s k = some l ∧ w.ownsRow 0 69 512 v l.length (l.flatMap bcells) ∧ (∀ g, v.ownBlock = some g → F g ∧ g ∉ own)
  apart : ∀ k k' v v' g, m k = some v → m k' = some v' → v.ownBlock = some g → v'.ownBlock = some g → k = k'

/-- A disk lies at block a; all its blocks are of F. -/
structure DiskAt (w : World) (F : Nat → Prop) (a : Nat) (d : DM) (L S C X : Nat) (mc : Int → Option Value) : Prop where
  cells : w.heap[a]? = some (.cells (diskCells d.size L S C X d.steps) 52 (0, 0))
  nodup : [a, L, S, C, X].Nodup
  foot : ∀ b ∈ [a, L, S, C, X], F b
  lasting : IntMap w L (fun k => (d.lasting k).map blkV)
  seen : IntMap w S (fun k => (d.seen k).map blkV)
  fails : IntMap w X (fun k => (d.fails k).map (.int .i64))
  since : IntMap w C mc
  sinceAt : SinceAt w F [a, L, S, C, X] mc d.since

/-- The disk's own law: blocks have 512 bytes and lie on it. -/
structure DM.Ok (d : DM) : Prop where
  pos : 1 ≤ d.size
  most : d.size ≤ 65536
  lasting : ∀ k l, d.lasting k = some l → l.length = 512 ∧ 0 ≤ k ∧ k < d.size
  seen : ∀ k l, d.seen k = some l → l.length = 512 ∧ 0 ≤ k ∧ k < d.size
  since : ∀ k l, d.since k = some l → 0 ≤ k ∧ k < d.size ∧ 1 ≤ l.length ∧ l.length ≤ d.steps ∧ ∀ x ∈ l, x.length = 512

def Disk (w : World) (F : Nat → Prop) (a : Nat) (d : DM) : Prop := d.Ok ∧ ∃ L S C X mc, DiskAt w F a d L S C X mc

theorem DiskAt.lt {w : World} {F : Nat → Prop} {a : Nat} {d : DM} {L S C X : Nat} {mc : Int → Option Value} (h : DiskAt w F a d L S C X mc) : a < w.heap.size :=
  (Array.getElem?_eq_some_iff.1 h.cells).1

theorem ownsRow_heap {w w' : World} {base : Nat} {e : TypeId} {size : Nat} {v : Value} {n : Nat} {xs : List Value} (h : w.ownsRow base e size v n xs) (hb : ∀ g, v.ownBlock = some g → w'.heap[g]? = w.heap[g]?) :
    w'.ownsRow base e size v n xs := by
  refine ⟨h.1, ?_⟩
  rcases h.2 with hn | ⟨g, cap, cur, rfl, h1, h2, rest⟩
  · exact .inl hn
  · exact .inr ⟨g, cap, cur, rfl, h1, (hb g rfl).trans h2, rest⟩

theorem SinceAt.touch {w w' : World} {F S : Nat → Prop} {own : List Nat} {m : Int → Option Value} {s : Int → Option (List (List UInt8))} (h : SinceAt w F own m s) (g : Touch S w w')
    (hs : ∀ b, F b → b ∉ own → ¬ S b) : SinceAt w' F own m s :=
  ⟨fun k => by
    rcases h.one k with h1 | ⟨v, l, h1, h2, h3, h4⟩
    · exact .inl h1
    · exact .inr ⟨v, l, h1, h2, ownsRow_heap h3 fun b hb => g.block b (h3.lt b hb).2 (hs b (h4 b hb).1 (h4 b hb).2), h4⟩, h.apart⟩

/-- What touches nothing of a disk leaves it. -/
theorem DiskAt.touch {w w' : World} {F S : Nat → Prop} {a : Nat} {d : DM} {L M C X : Nat} {mc : Int → Option Value} (h : DiskAt w F a d L M C X mc) (g : Touch S w w') (hs : ∀ b, F b → ¬ S b) : DiskAt w' F a d L M C X mc :=
  ⟨g.heap h.cells (hs _ (h.foot a (by simp))), h.nodup, h.foot, h.lasting.touch g (hs _ (h.foot L (by simp))), h.seen.touch g (hs _ (h.foot M (by simp))), h.fails.touch g (hs _ (h.foot X (by simp))),
    h.since.touch g (hs _ (h.foot C (by simp))), h.sinceAt.touch g fun b hb _ => hs b hb⟩
theorem Disk.touch {w w' : World} {F S : Nat → Prop} {a : Nat} {d : DM} (h : Disk w F a d) (g : Touch S w w') (hs : ∀ b, F b → ¬ S b) : Disk w' F a d :=
  let ⟨ok, L, M, C, X, mc, h⟩ := h; ⟨ok, L, M, C, X, mc, h.touch g hs⟩
theorem Disk.mono {w : World} {F F' : Nat → Prop} {a : Nat} {d : DM} (h : Disk w F a d) (hs : ∀ b, F b → F' b) : Disk w F' a d :=
  let ⟨ok, L, M, C, X, mc, h⟩ := h
  ⟨ok, L, M, C, X, mc, h.cells, h.nodup, fun b hb => hs b (h.foot b hb), h.lasting, h.seen, h.fails, h.since,
    ⟨fun k => (h.sinceAt.one k).imp id fun ⟨v, l, h1, h2, h3, h4⟩ => ⟨v, l, h1, h2, h3, fun g hg => ⟨hs g (h4 g hg).1, (h4 g hg).2⟩⟩, h.sinceAt.apart⟩⟩
theorem Disk.below {w w' : World} {F : Nat → Prop} {a : Nat} {d : DM} (h : Disk w F a d) (g : Below w.heap.size w w') : Disk w' F a d := by
  obtain ⟨ok, L, M, C, X, mc, h⟩ := h
  refine ⟨ok, L, M, C, X, mc, (g.block _ h.lt).trans h.cells, h.nodup, h.foot, h.lasting.of_heap (g.block _ h.lasting.lt), h.seen.of_heap (g.block _ h.seen.lt), h.fails.of_heap (g.block _ h.fails.lt), h.since.of_heap (g.block _ h.since.lt), ?_, h.sinceAt.apart⟩
  intro k
  rcases h.sinceAt.one k with h1 | ⟨v, l, h1, h2, h3, h4⟩
  · exact .inl h1
  · exact .inr ⟨v, l, h1, h2, ownsRow_heap h3 fun b hb => g.block b (h3.lt b hb).2, h4⟩

theorem cellOf {w : World} {b o : Nat} {cs : Array Value} {t : TypeId} {fr : Nat × Nat} {v : Value} (h : w.heap[b]? = some (.cells cs t fr)) (hv : cs[o]? = some v) : w.cell? ⟨b, o, none⟩ = some v := by
  rw [cell_of_row w b o cs t fr h]; exact hv
theorem freeOf {w : World} {b o : Nat} {cs : Array Value} {t : TypeId} (h : w.heap[b]? = some (.cells cs t (0, 0))) : w.frozen? ⟨b, o, none⟩ = false := frozen_of_row w b o cs t h

/-! ### none, Size -/
theorem none_nil (w : World) : Calls Try.prog 28 #[.pointer none] w fun e w' => e = .returned (.bool true) ∧ w = w' := by
  go_enter Try.func28, Try.ntmps28
  go_wp2
  go_ret
  exact ⟨rfl, rfl⟩
theorem none_at (w : World) (a : Nat) (n : Int) (b : Bool) (h : w.cell? ⟨a, 0, none⟩ = some (.int .i64 n)) (hn : (n == 0) = b) :
    Calls Try.prog 28 #[.pointer (some ⟨a, 0, none⟩)] w fun e w' => e = .returned (.bool b) ∧ w = w' := by
  go_enter Try.func28, Try.ntmps28
  go_wp2
  go_ret
  exact ⟨rfl, rfl⟩
theorem size_nil (w : World) : Calls Try.prog 41 #[.pointer none] w fun e w' => e = .returned (.int .i64 0) ∧ w = w' := by
  go_enter Try.func41, Try.ntmps41
  go_wp2_with (go_at_call 28; refine (none_nil _).mono ?_; rintro e w' ⟨rfl, rfl⟩)
  go_ret
  exact ⟨rfl, rfl⟩
theorem size_at (w : World) (a : Nat) (n : Int) (h : w.cell? ⟨a, 0, none⟩ = some (.int .i64 n)) :
    Calls Try.prog 41 #[.pointer (some ⟨a, 0, none⟩)] w fun e w' => e = .returned (.int .i64 n) ∧ w = w' := by
  by_cases hn : (n == 0) = true
  · obtain rfl : n = 0 := by simpa using hn
    go_enter Try.func41, Try.ntmps41
    go_wp2_with (go_at_call 28; refine (none_at _ _ _ true h rfl).mono ?_; rintro e w' ⟨rfl, rfl⟩)
    go_ret
    exact ⟨rfl, rfl⟩
  · have hn' : (n == 0) = false := by simpa using hn
    go_enter Try.func41, Try.ntmps41
    go_wp2_with (go_at_call 28; refine (none_at _ _ _ false h hn').mono ?_; rintro e w' ⟨rfl, rfl⟩)
    go_ret
    exact ⟨rfl, rfl⟩

theorem Disk.c0 {w : World} {F : Nat → Prop} {a : Nat} {d : DM} (h : Disk w F a d) : w.cell? ⟨a, 0, none⟩ = some (.int .i64 (d.size : Int)) := by
  obtain ⟨ok, L, M, C, X, mc, h⟩ := h; exact cellOf h.cells rfl
theorem Disk.n0 {w : World} {F : Nat → Prop} {a : Nat} {d : DM} (h : Disk w F a d) : ((d.size : Int) == 0) = false := by
  have := h.1.pos; simp; omega
theorem none_disk {w : World} {F : Nat → Prop} {a : Nat} {d : DM} (h : Disk w F a d) :
    Calls Try.prog 28 #[.pointer (some ⟨a, 0, none⟩)] w fun e w' => e = .returned (.bool false) ∧ w = w' := none_at w a _ _ h.c0 h.n0
theorem size_disk {w : World} {F : Nat → Prop} {a : Nat} {d : DM} (h : Disk w F a d) :
    Calls Try.prog 41 #[.pointer (some ⟨a, 0, none⟩)] w fun e w' => e = .returned (.int .i64 (d.size : Int)) ∧ w = w' := size_at w a _ h.c0

/-! ### New -/
theorem new_bad (n : Int) (hn : n < 1 ∨ 65536 < n) (w : World) :
    Calls Try.prog 8 #[.int .i64 n] w fun e w' => e = .returned (.tuple #[.pointer none, .int .i64 2]) ∧ w = w' := by
  rcases hn with hn | hn
  · go_enter Try.func8, Try.ntmps8
    go_wp2
    go_ret2
    exact ⟨rfl, rfl⟩
  · have h1 : decide (n < 1) = false := by simp; omega
    go_enter Try.func8, Try.ntmps8
    go_wp2
    go_ret2
    exact ⟨rfl, rfl⟩

theorem new_ok (n : Nat) (h1 : 1 ≤ n) (h2 : n ≤ 65536) (w : World) :
    Calls Try.prog 8 #[.int .i64 (n : Int)] w fun e w' => e = .returned (.tuple #[.pointer (some ⟨w.heap.size + 4, 0, none⟩), .int .i64 0]) ∧
      Disk w' (fun b => w.heap.size ≤ b) (w.heap.size + 4) (DM.new n) ∧ Below w.heap.size w w' ∧ w.heap.size + 4 < w'.heap.size := by
  have h3 : decide ((n : Int) < 1) = false := by simp; omega
  have h4 : decide ((n : Int) > 65536) = false := by simp; omega
  have hmm := @run_makeMap Try.prog
  go_enter Try.func8, Try.ntmps8
  go_wp2
  go_ret2
  refine ⟨rfl, ⟨⟨h1, h2, by simp [DM.new], by simp [DM.new], by simp [DM.new]⟩, w.heap.size, w.heap.size + 1, w.heap.size + 2, w.heap.size + 3, fun _ => none, ?_⟩, ?_, by simp⟩
  · refine ⟨(by simp only [heap_get_alloc, World.size_alloc]; repeat (first | rfl | rw [if_pos (by omega)] | rw [if_neg (by omega)])), by simp, by simp, IntMap.fresh (by simp only [heap_get_alloc, World.size_alloc]; repeat (first | rfl | rw [if_pos (by omega)] | rw [if_neg (by omega)])), IntMap.fresh (by simp only [heap_get_alloc, World.size_alloc]; repeat (first | rfl | rw [if_pos (by omega)] | rw [if_neg (by omega)])), IntMap.fresh (by simp only [heap_get_alloc, World.size_alloc]; repeat (first | rfl | rw [if_pos (by omega)] | rw [if_neg (by omega)])), IntMap.fresh (by simp only [heap_get_alloc, World.size_alloc]; repeat (first | rfl | rw [if_pos (by omega)] | rw [if_neg (by omega)])), fun k => .inl ⟨rfl, rfl⟩, fun k k' v v' g h => by cases h⟩
  · exact (((((Below.refl _ _).alloc (Nat.le_refl _) _).alloc (by simp) _).alloc (by simp; omega) _).alloc (by simp; omega) _).alloc (by simp; omega) _

/-! ### step -/
def DM.stepped (d : DM) : DM := { d with steps := d.steps + 1 }
def DM.failing (d : DM) : Bool := decide (0 < (d.fails (d.steps : Int)).getD 0)

theorem DiskAt.stepped {w : World} {F : Nat → Prop} {a : Nat} {d : DM} {L S C X : Nat} {mc : Int → Option Value} (h : DiskAt w F a d L S C X mc) :
    DiskAt (w.setCell ⟨a, 5, none⟩ (.int .i64 ((d.steps : Int) + 1))) F a d.stepped L S C X mc := by
  have hne : ∀ b ∈ [L, S, C, X], b ≠ a := fun b hb e => by
    subst e; have := h.nodup; simp only [List.nodup_cons] at this; exact this.1 hb
  have ho : ∀ b, b ≠ a → (w.setCell ⟨a, 5, none⟩ (.int .i64 ((d.steps : Int) + 1))).heap[b]? = w.heap[b]? := fun b hb => Below.heap_setCell w ⟨a, 5, none⟩ _ b hb
  refine ⟨?_, h.nodup, h.foot, h.lasting.of_heap (ho _ (hne L (by simp))), h.seen.of_heap (ho _ (hne S (by simp))), h.fails.of_heap (ho _ (hne X (by simp))), h.since.of_heap (ho _ (hne C (by simp))), ?_, h.sinceAt.apart⟩
  · rw [heap_setCell_same w a 5 _ _ _ h.cells]; rfl
  · intro k
    rcases h.sinceAt.one k with h1 | ⟨v, l, h1, h2, h3, h4⟩
    · exact .inl h1
    · exact .inr ⟨v, l, h1, h2, ownsRow_heap h3 fun b hb => ho b fun e => (h4 b hb).2 (by simp [e]), h4⟩

theorem DM.Ok.stepped {d : DM} (h : d.Ok) : d.stepped.Ok :=
  ⟨h.pos, h.most, h.lasting, h.seen, fun k l hl => let ⟨a, b, c, e, f⟩ := h.since k l hl; ⟨a, b, c, Nat.le_succ_of_le e, f⟩⟩

theorem step_any {w : World} {F : Nat → Prop} {a : Nat} {d : DM} (h : Disk w F a d) (hst : d.steps < 1073741824) :
    Calls Try.prog 43 #[.pointer (some ⟨a, 0, none⟩)] w fun e w' => e = .returned (.bool d.failing) ∧ Disk w' F a d.stepped ∧ Touch (fun b => b = a) w w' ∧ w'.heap.size = w.heap.size := by
  obtain ⟨ok, L, S, C, X, mc, h⟩ := h
  have c4 : w.cell? ⟨a, 4, none⟩ = some (.map (some X)) := cellOf h.cells rfl
  have c5 : w.cell? ⟨a, 5, none⟩ = some (.int .i64 (d.steps : Int)) := cellOf h.cells rfl
  have f5 : w.frozen? ⟨a, 5, none⟩ = false := freeOf h.cells
  have hs := h.stepped
  have hl : ∀ w', w' = w.setCell ⟨a, 5, none⟩ (.int .i64 ((d.steps : Int) + 1)) → (Instr.lookup 50 (.map (some X)) (.int .i64 (d.steps : Int)) false).run Try.prog w' = .ok (.int .i64 ((d.fails (d.steps : Int)).getD 0)) w' := by
    rintro w' rfl
    have := run_lookup_int (P := Try.prog) hs.fails Try.underlying50 Try.underlying3 Try.zeroValue3 (d.steps : Int)
    rw [this]
    simp only [DM.stepped]
    cases d.fails (d.steps : Int) <;> rfl
  have hl' := hl _ rfl
  clear hl
  have hst' : (d.steps : Int) < 1073741824 := by omega
  go_enter Try.func43, Try.ntmps43
  go_wp2
  go_ret
  exact ⟨rfl, ⟨ok.stepped, L, S, C, X, mc, hs⟩, (Touch.refl _ _).setCell (.inl (by exact rfl)) _, by simp [World.setCell]⟩
end Go.Proofs.Ytmgajgeoibbmjaa
