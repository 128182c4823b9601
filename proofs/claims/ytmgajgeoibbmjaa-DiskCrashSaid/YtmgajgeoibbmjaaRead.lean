/- The disk: Read, Flush. The book: heads, halves. -/
import Derived.Test.YtmgajgeoibbmjaaBook
import Derived.Shelf.SlMaps.Clone
namespace Go.Proofs.Ytmgajgeoibbmjaa
open Go.RowKit

/-- n blocks from at_ on, as they are read. -/
def readB (d : DM) (at_ n : Nat) : List UInt8 := (List.range n).flatMap fun i => (d.seen ((at_ + i : Nat) : Int)).getD zblk
theorem readB_succ (d : DM) (at_ n : Nat) : readB d at_ (n + 1) = readB d at_ n ++ (d.seen ((at_ + n : Nat) : Int)).getD zblk := by simp [readB, List.range_succ]
theorem zblk_length : zblk.length = 512 := List.length_replicate
theorem seen_length {d : DM} (h : d.Ok) (k : Int) : ((d.seen k).getD zblk).length = 512 := by
  cases hs : d.seen k with
  | none => exact zblk_length
  | some l => exact (h.seen k l hs).1
theorem readB_length {d : DM} (h : d.Ok) (at_ n : Nat) : (readB d at_ n).length = 512 * n := by
  induction n with
  | zero => rfl
  | succ n ih => rw [readB_succ, List.length_append, ih, seen_length h]; omega
set_option maxRecDepth 100000 in
theorem zero_blk : Value.agg Try.zeroCells69 = blkV zblk := by kernel_rfl

set_option maxRecDepth 100000 in
set_option maxHeartbeats 1000000 in
theorem read_ok {w : World} {F : Nat → Prop} {a : Nat} {d : DM} (hd : Disk w F a d) (at_ n : Nat) (hn : at_ + n ≤ d.size) :
    Calls Try.prog 12 #[.pointer (some ⟨a, 0, none⟩), .int .i64 (at_ : Int), .int .i64 (n : Int)] w fun e w' =>
      ∃ v, e = .returned (.tuple #[v, .int .i64 0]) ∧ OwnB w' v (readB d at_ n) ∧ Below w.heap.size w w' ∧ (∀ g, v.ownBlock = some g → w.heap.size ≤ g) := by
  have hmost := hd.1.most
  have hat : (at_ : Int) ≤ (d.size : Int) := by omega
  have hat0 : ¬ ((at_ : Int) < 0) := by omega
  have hn0 : ¬ ((n : Int) < 0) := by omega
  have hsub : ¬ ((n : Int) > (d.size : Int) - at_) := by omega
  have hszI : (d.size : Int) ≤ 65536 := by omega
  have hnI : (n : Int) ≤ 65536 := by omega
  have hatI : (at_ : Int) ≤ 65536 := by omega
  have c0 := hd.c0
  have Hn := Lib.hid (none_disk hd)
  have hok := hd.1
  obtain ⟨_, L, S, C, X, mc, hA⟩ := hd
  have c2 : w.cell? ⟨a, 2, none⟩ = some (.map (some S)) := cellOf hA.cells rfl
  clear hmost
  go_enter Try.func12, Try.ntmps12
  go_wp2_with (go_at_call 28; refine Hn.out.mono ?_; rintro e w' ⟨rfl, rfl⟩)
  clear hat hsub hat0 hn0
  generalize (decide ((at_:Int) < 0) || decide ((n:Int) < 0) || decide (d.size < at_) || decide ((d.size:Int) - at_ < n)) = bb
  generalize decide ((at_:Int) < 0) = b1
  generalize decide ((n:Int) < 0) = b2
  generalize decide (d.size < at_) = b3
  generalize decide ((d.size:Int) - at_ < n) = b4
  go_loopw [8, 40] (fun v i wr => ∃ k : Nat, k ≤ n ∧ i = .int .i64 (k : Int) ∧ OwnB wr v (readB d at_ k) ∧ Below w.heap.size w wr ∧ (∀ g, v.ownBlock = some g → w.heap.size ≤ g)) (fun _ i _ => n - (intOf i).toNat)
  case atStart => exact ⟨0, Nat.zero_le _, rfl, OwnB.nil _, Below.refl _ _, fun g hg => by cases hg⟩
  case round =>
    obtain ⟨k, hk, rfl, hown, hb, hg⟩ := hrel
    by_cases hlt : k < n
    · have e2 : wr.cell? ⟨a, 2, none⟩ = some (.map (some S)) := belowCell hb (ltOf c2) c2
      have hIM : IntMap wr S (fun k => (d.seen k).map blkV) := hA.seen.of_heap (hb.block _ hA.seen.lt)
      have hlk : (Instr.lookup 48 (.map (some S)) (.int .i64 ((at_ : Int) + k)) false).run Try.prog wr = .ok (blkV ((d.seen ((at_ + k : Nat) : Int)).getD zblk)) wr := by
        have := run_lookup_int (P := Try.prog) hIM Try.underlying48 Try.underlying3 Try.zeroValue69 ((at_ : Int) + k)
        rw [this, Int.natCast_add]
        cases d.seen ((at_ : Int) + k) with
        | none => exact congrArg (fun v => Result.ok v wr) zero_blk
        | some l => rfl
      have hbl := seen_length hok ((at_ + k : Nat) : Int)
      have hrs := readB_succ d at_ k
      generalize (d.seen ((at_ + k : Nat) : Int)).getD zblk = bl at *
      have hB1 : Below wr.heap.size wr (wr.alloc (.cells Try.zeroCells69 69)) := (Below.refl _ _).alloc (Nat.le_refl _) _
      obtain ⟨W1, hst1, hT1, hN1⟩ := run_store_blk (heap_alloc_new wr (.cells Try.zeroCells69 69)) zero_size hbl
      have hTW : Below wr.heap.size wr W1 := hT1.below hB1 (fun b hb e => by omega) (by simp)
      obtain ⟨v', w', happ, h1, h2, h3, h4⟩ := append_bytes (hown.below hTW) ⟨wr.heap.size, 0, none⟩ 512 bl (by
        intro i b hi
        rw [addr_add, Nat.zero_add, cell_of_row _ _ _ _ _ _ hN1]
        simp [bcells, hi]) (by rw [readB_length hok, hbl]; omega) 35
      have hfin : OwnB w' v' (readB d at_ (k + 1)) ∧ Below w.heap.size w w' ∧ (∀ g, v'.ownBlock = some g → w.heap.size ≤ g) := by
        refine ⟨by rw [hrs]; exact h1, h2.below (hb.trans (hTW.mono hb.size)) (fun b hb' e => by have := hg _ e; omega) (by have := hb.size; have := hTW.size; omega), fun g hg' => ?_⟩
        rcases h3 with e | e
        · exact hg g (by rw [← e]; exact hg')
        · rw [e] at hg'; have := hb.size; have := hTW.size; simp at hg'; omega
      have Hf := Lib.hid hfin
      rw [hbl] at happ
      have Ha := Lib.hid happ
      have Hs := Lib.hid hst1
      have hkI : (k : Int) < n := by omega
      clear hfin happ hst1 hown h1 h2 h3 h4 hb hg hT1 hN1 hB1 hTW hIM hbl hrs
      go_wp2_with (first
        | (refine wpList_store (v := blkV bl) rfl 69 _ _ _ rfl rfl rfl Hs.out ?_)
        | (refine wpList_append rfl rfl rfl rfl Ha.out ?_))
      go_roundw
      case rel => exact ⟨k + 1, by omega, by go_num, Hf.out⟩
      case measure => simp [intOf]; omega
    · obtain rfl : k = n := by omega
      have Hf : Hid _ := Lib.hid (And.intro hown (And.intro hb hg))
      clear hown hb hg
      go_wp2
      go_ret2
      exact ⟨_, rfl, Hf.out⟩

/-! ### Flush -/
set_option maxRecDepth 100000 in
theorem mapsClone_any (b : Nat) (es : Array MapEntry) (clk : Nat) (w : World) (hb : w.heap[b]? = some (.map es clk)) :
    Calls Try.prog 45 #[.map (some b)] w fun e w' => e = .returned (.map (some w.heap.size)) ∧ w' = w.alloc (.map es clk) := by
  have hq := fun w => run_eql_map_nil_sl (P := Try.prog) w 48 _ _ (some b) Try.underlying48
  go_enter Try.func45, Try.ntmps45
  go_wp2
  rw [run_callFunc_extern Try.func55 (by kernel_rfl) (by kernel_rfl) (by kernel_rfl) (e := Extern.MapsClone.clone) (by kernel_rfl), run_maps_clone_sl w 48 hb]
  simp only [Result.andThen]
  rw [Oper.upon_value]
  go_wp2
  rw [run_typeAssert_map_sl _ 48 20 _ _ _ Try.underlying48]
  simp only [Result.andThen]
  rw [Oper.upon_value]
  go_wp2
  go_ret
  exact ⟨rfl, rfl⟩
end Go.Proofs.Ytmgajgeoibbmjaa
