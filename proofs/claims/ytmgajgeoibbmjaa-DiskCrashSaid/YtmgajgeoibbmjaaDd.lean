/- Disks of ours, and the law's small functions. Printed by gen_dd.py. -/
import Derived.Test.YtmgajgeoibbmjaaDnil
namespace Go.Proofs.Ytmgajgeoibbmjaa
open Go.RowKit

theorem run_eqs (x y : List UInt8) (r : Bool) (h : decide (x = y) = r) (W : World) : (binOp .eql 9 (.string (strB x)) (.string (strB y))).run Try.prog W = .ok (.bool r) W := by
  subst h
  by_cases h : x = y <;> simp [go_sem, strB_toList, h]

/-- A disk of ours: its blocks lie from w0 on. -/
structure Dd (w0 w : World) (a : Nat) (d : DM) : Prop where
  ex : ∃ F, Disk w F a d ∧ ∀ x, F x → w0.heap.size ≤ x ∧ x < w.heap.size
  below : Below w0.heap.size w0 w
section
variable {w0 w w1 : World} {a : Nat} {d : DM}
theorem Dd.grow (h : Dd w0 w a d) (g : Below w.heap.size w w1) : Dd w0 w1 a d := by
  obtain ⟨⟨F, h1, h2⟩, h3⟩ := h
  exact ⟨⟨F, h1.below g, fun x hx => ⟨(h2 x hx).1, Nat.lt_of_lt_of_le (h2 x hx).2 g.size⟩⟩, h3.trans (g.mono h3.size)⟩
theorem Dd.ok (h : Dd w0 w a d) : d.Ok := by obtain ⟨⟨F, h1, _⟩, _⟩ := h; exact h1.1
theorem Dd.new (n : Nat) (h1 : 1 ≤ n) (h2 : n ≤ 65536) (w : World) :
    Calls Try.prog 8 #[.int .i64 (n : Int)] w fun e w' => e = .returned (.tuple #[.pointer (some ⟨w.heap.size + 4, 0, none⟩), .int .i64 0]) ∧ Dd w w' (w.heap.size + 4) (DM.new n) ∧ Below w.heap.size w w' := by
  refine (new_ok n h1 h2 w).mono ?_
  rintro e w' ⟨rfl, k1, k2, k3⟩
  exact ⟨rfl, ⟨⟨_, k1.cap, fun x hx => ⟨hx.1, hx.2⟩⟩, k2⟩, k2⟩
theorem Dd.steps (h : Dd w0 w a d) : Calls Try.prog 21 #[.pointer (some ⟨a, 0, none⟩)] w fun e w' => e = .returned (.int .i64 (d.steps : Int)) ∧ w = w' := by
  obtain ⟨⟨F, h1, h2⟩, h3⟩ := h; exact steps_at h1
theorem Dd.write (h : Dd w0 w a d) (hst : d.steps < 1073741824) (hw : Below w.heap.size w w1) (sa : Option Addr) (sn sc : Nat) (l : List UInt8) (hrd : RdB w1 (.slice sa sn sc) l) (hfree : ∀ g, (Value.slice sa sn sc).ownBlock = some g → w.heap.size ≤ g) (at_ m : Nat) (hl : l.length = 512 * m) (hm : at_ + m ≤ d.size) :
    Calls Try.prog 16 #[.pointer (some ⟨a, 0, none⟩), .int .i64 (at_ : Int), .slice sa sn sc] w1 fun e w' => e = .returned (.int .i64 (d.write at_ l m).2) ∧ Dd w0 w' a (d.write at_ l m).1 := by
  obtain ⟨⟨F, h1, h2⟩, h3⟩ := h
  have h3' := h3.trans (hw.mono h3.size)
  refine (write_ok (h1.below hw) (fun x hx => Nat.lt_of_lt_of_le (h2 x hx).2 hw.size) hst sa sn sc l hrd (fun _ g hg hx => by have := hfree g hg; have := (h2 g hx).2; omega) at_ m hl hm).mono ?_
  rintro e w' ⟨rfl, k1, k2⟩
  exact ⟨rfl, ⟨_, k1.cap, fun x hx => ⟨hx.1.elim (fun h => (h2 x h).1) (fun h => Nat.le_trans h3'.size h), hx.2⟩⟩, k2.below h3' (fun x hx hh => by have := (h2 x hh).1; omega) h3'.size⟩
theorem Dd.flush (h : Dd w0 w a d) (hst : d.steps < 1073741824) :
    Calls Try.prog 19 #[.pointer (some ⟨a, 0, none⟩)] w fun e w' => e = .returned (.int .i64 d.flush.2) ∧ Dd w0 w' a d.flush.1 := by
  obtain ⟨⟨F, h1, h2⟩, h3⟩ := h
  refine (flush_ok h1 hst).mono ?_
  rintro e w' ⟨rfl, k1, k2⟩
  exact ⟨rfl, ⟨_, k1.cap, fun x hx => ⟨hx.1.elim (fun h => (h2 x h).1) (fun h => Nat.le_trans h3.size h), hx.2⟩⟩, k2.below h3 (fun x hx hh => by have := (h2 x hh).1; omega) h3.size⟩
theorem Dd.fail {N : Nat} (h : Dd w0 w a d) (p : Option Addr) (m c : Nat) (ks : List Int) (hw : Below w.heap.size w w1) (hrd : RdI w1 (.slice p m c) ks) (hfree : ∀ g, (Value.slice p m c).ownBlock = some g → w.heap.size ≤ g) (hlen : ks.length ≤ 1000000) (hB : FailB d N) (hN : N + ks.length ≤ 1000000000) (hneg : anyNeg ks = false) :
    Calls Try.prog 20 #[.pointer (some ⟨a, 0, none⟩), .slice p m c] w1 fun e w' => e = .returned (.int .i64 0) ∧ Dd w0 w' a (d.failL ks) := by
  obtain ⟨⟨F, h1, h2⟩, h3⟩ := h
  have h3' := h3.trans (hw.mono h3.size)
  refine (fail_any (h1.below hw) p m c ks hrd (fun _ g hg hx => by have := hfree g hg; have := (h2 g hx).2; omega) hlen hB hN hneg).mono ?_
  rintro e w' ⟨rfl, k1, k2⟩
  exact ⟨rfl, ⟨F, k1, fun x hx => ⟨(h2 x hx).1, Nat.lt_of_lt_of_le (h2 x hx).2 (Nat.le_trans hw.size k2.size)⟩⟩, k2.below h3' (fun x hx hh => by have := (h2 x hh).1; omega) h3'.size⟩
theorem Dd.crash (h : Dd w0 w a d) (p : Option Addr) (m c : Nat) (ks : List Int) (hrd : RdI w (.slice p m c) ks) (hmc : m ≤ c) (hlen : ks.length ≤ 1000000) (hneg : anyNeg ks = false) (hst : d.steps < 1073741824) :
    Calls Try.prog 11 #[.pointer (some ⟨a, 0, none⟩), .slice p m c] w fun e w' => ∃ a', e = .returned (.tuple #[.pointer (some ⟨a', 0, none⟩), .int .i64 0]) ∧ Dd w0 w' a' (d.crash ks) ∧ Below w.heap.size w w' := by
  obtain ⟨⟨F, h1, h2⟩, h3⟩ := h
  refine (crash_ok h1 (fun x hx => (h2 x hx).2) p m c ks hrd hmc hlen hneg hst).mono ?_
  rintro e w' ⟨a', rfl, k1, k2⟩
  exact ⟨a', rfl, ⟨⟨_, k1.cap, fun x hx => ⟨Nat.le_trans h3.size hx.1, hx.2⟩⟩, h3.trans (k2.mono h3.size)⟩, k2⟩
end

/-! ### Pending -/
theorem exec_lenmap {a : Act} {w : World} {o : Oper} {x : Operand} {b : Nat} {es : Array MapEntry} {clk : Nat} (ho : o.op = .call { callee := .builtin .len, args := #[x], argTypes := #[49] }) (hx : a.eval x = .map (some b)) (hb : w.heap[b]? = some (.map es clk)) : (execOp a.eval o).run Try.prog w = .ok (.value (.int .i64 (es.size : Int))) w := by
  unfold execOp
  simp only [ho, resolve, invoke, builtin, Sem.run_bind, Sem.run_pure, Result.andThen_ok, List.map_toArray, List.map_cons, List.map_nil, hx]
  have hg : (getObj b).run Try.prog w = .ok (.map es clk) w := by simp [getObj, Sem.run, hb]
  simp [Builtin.len_, run_underlying Try.underlying49, hg, goInt, Result.andThen]
theorem nodup_same_length {l m : List Int} (hl : l.Nodup) (hm : m.Nodup) (h : ∀ k, k ∈ l ↔ k ∈ m) : l.length = m.length :=
  Nat.le_antisymm (nodup_length_le l m hl fun k hk => (h k).1 hk) (nodup_length_le m l hm fun k hk => (h k).2 hk)
theorem keysOf_length {es : List MapEntry} (hi : ∀ e ∈ es, ∃ k, e.key = .int .i64 k) : (keysOf es).length = es.length := by
  induction es with
  | nil => rfl
  | cons e r ih =>
    obtain ⟨k, hk⟩ := hi e (by simp)
    unfold keysOf at ih ⊢
    rw [List.filterMap_cons, keyI_of hk]
    simp only [List.length_cons]
    rw [ih (fun e he => hi e (by simp [he]))]
theorem since_size {w : World} {F : Nat → Prop} {a : Nat} {d : DM} (h : Disk w F a d) : ∃ (C : Nat) (es : Array MapEntry) (clk : Nat), w.cell? ⟨a, 3, none⟩ = some (.map (some C)) ∧ w.heap[C]? = some (.map es clk) ∧ es.size = (sinceKeys d).length := by
  obtain ⟨hok, L, S, C, X, mc, hA⟩ := h
  obtain ⟨es, clk, hb, hg, hm⟩ := hA.since
  refine ⟨C, es, clk, cellOf hA.cells rfl, hb, ?_⟩
  rw [← Array.length_toList, ← keysOf_length hg.int]
  refine nodup_same_length hg.keys ((sinceKeys_strict d).imp (fun h => by omega)) (fun k => ?_)
  rw [mem_sinceKeys hok]
  constructor
  · intro hk
    obtain ⟨e, he, hke⟩ := List.mem_filterMap.1 hk
    have := getE_mem hg.keys he hke
    rw [hm] at this
    rcases hA.sinceAt.one k with ⟨q1, q2⟩ | ⟨v, ls, q1, q2, _⟩
    · rw [q1] at this; cases this
    · rw [q2]; rfl
  · intro hk
    rcases hA.sinceAt.one k with ⟨q1, q2⟩ | ⟨v, ls, q1, q2, _⟩
    · rw [q2] at hk; cases hk
    · rw [← hm] at q1
      obtain ⟨e, he, hke, _⟩ := getE_some q1
      exact List.mem_filterMap.2 ⟨e, he, hke⟩
theorem pending_at {w : World} {F : Nat → Prop} {a : Nat} {d : DM} (h : Disk w F a d) :
    Calls Try.prog 22 #[.pointer (some ⟨a, 0, none⟩)] w fun e w' => e = .returned (.int .i64 ((sinceKeys d).length : Int)) ∧ w = w' := by
  have Hn := Lib.hid (none_disk h)
  obtain ⟨C, es, clk, c3, hb, hsz⟩ := since_size h
  have Hb := Lib.hid hb
  have Hsz := Lib.hid hsz
  clear h hb hsz
  go_enter Try.func22, Try.ntmps22
  go_wp2_with (first
    | (go_at_call 28; refine Hn.out.mono ?_; rintro e w' ⟨rfl, rfl⟩)
    | (refine wpList_run rfl (exec_lenmap rfl rfl Hb.out) ?_))
  go_ret
  exact ⟨by rw [← Hsz.out]; rfl, rfl⟩
theorem Dd.pending {w0 w : World} {a : Nat} {d : DM} (h : Dd w0 w a d) : Calls Try.prog 22 #[.pointer (some ⟨a, 0, none⟩)] w fun e w' => e = .returned (.int .i64 ((sinceKeys d).length : Int)) ∧ w = w' := by
  obtain ⟨⟨F, h1, h2⟩, h3⟩ := h; exact pending_at h1

/-! ### a block of one byte -/
def fillB (k : Nat) (b : UInt8) : List UInt8 := List.replicate k b ++ zeros (512 - k)
theorem fillB_length (k : Nat) (b : UInt8) (h : k ≤ 512) : (fillB k b).length = 512 := by unfold fillB zeros; rw [List.length_append, List.length_replicate, List.length_replicate]; omega
theorem fillB_set (k : Nat) (b : UInt8) (h : k < 512) : (bcells (fillB k b)).toArray.setIfInBounds k (.int .u8 (b.toNat : Int)) = (bcells (fillB (k + 1) b)).toArray := by
  rw [List.setIfInBounds_toArray]
  congr 1
  have e : 512 - k = (512 - (k + 1)) + 1 := by omega
  unfold bcells fillB zeros
  rw [List.map_append, List.map_append, List.map_replicate, List.map_replicate, List.map_replicate, List.map_replicate, List.set_append_right _ _ (by simp), List.length_replicate, Nat.sub_self, e, List.replicate_succ, List.set_cons_zero, List.replicate_succ', List.append_assoc]
  rfl

set_option maxRecDepth 100000 in
set_option maxHeartbeats 1000000 in
theorem block_any (b : UInt8) (w : World) :
    Calls Try.prog 17 #[.int .u8 (b.toNat : Int)] w fun e w' => ∃ c, e = .returned (.slice (some ⟨w.heap.size, 0, none⟩) 512 c) ∧ OwnB w' (.slice (some ⟨w.heap.size, 0, none⟩) 512 c) (List.replicate 512 b) ∧ Below w.heap.size w w' := by
  obtain ⟨w1, hmk, hown, hb1⟩ := make_zeros 512 (by omega) w
  have hrow : w1.heap[w.heap.size]? = some (.cells (bcells (fillB 0 b)).toArray 5 (0, 0)) := by
    rcases hown.2 with ⟨h, _⟩ | ⟨g, cap, cur, h, _, hg, hnc, hcm, hcs, htake⟩
    · cases h
    · cases h
      rw [hg]
      have e : cur.toList = bcells (zeros 512) := by
        rw [← htake]
        refine (List.take_of_length_le ?_).symm
        rw [Array.length_toList, hcs]
        unfold zeros; rw [List.length_replicate]; omega
      have e2 : cur = (bcells (fillB 0 b)).toArray := by
        have : fillB 0 b = zeros 512 := rfl
        rw [this, ← e]
      rw [e2]
  have Hmk := Lib.hid hmk
  have H1 := Lib.hid (And.intro hrow hb1)
  clear hmk hown hrow hb1
  go_enter Try.func17, Try.ntmps17
  go_wp2_with (refine wpList_run rfl (exec_makeSlice rfl rfl rfl Hmk.out) ?_)
  go_loopw [4] (fun i wr => ∃ k : Nat, k ≤ 512 ∧ i = .int .i64 (k : Int) ∧ wr.heap[w.heap.size]? = some (.cells (bcells (fillB k b)).toArray 5 (0, 0)) ∧ Below w.heap.size w wr) (fun i _ => 512 - (intOf i).toNat)
  case atStart => exact ⟨0, by omega, rfl, H1.out⟩
  case round =>
    obtain ⟨k, hk, rfl, hrow, hb⟩ := hrel
    by_cases hlt : k < 512
    · have hlen : (bcells (fillB k b)).length = 512 := by rw [bcells_length, fillB_length k b hk]
      have hc : wr.cell? ⟨w.heap.size, k, none⟩ = some ((bcells (fillB k b))[k]'(by omega)) := cellOf hrow (by simp)
      have hf : wr.frozen? ⟨w.heap.size, k, none⟩ = false := freeOf hrow
      have hnew : (wr.setCell ⟨w.heap.size, k, none⟩ (.int .u8 (b.toNat : Int))).heap[w.heap.size]? = some (.cells (bcells (fillB (k + 1) b)).toArray 5 (0, 0)) := by
        rw [heap_setCell_same wr w.heap.size k _ _ (Value.int .u8 (b.toNat : Int)) hrow, fillB_set k b hlt]
      have hb2 : Below w.heap.size w (wr.setCell ⟨w.heap.size, k, none⟩ (.int .u8 (b.toNat : Int))) := belowSet hb (Nat.le_refl _) _
      have H2 := Lib.hid (And.intro hnew hb2)
      generalize (bcells (fillB k b))[k]'(by omega) = u at hc
      clear hrow hb hnew hb2 hlen
      go_wp2
      go_roundw
      case rel => exact ⟨k + 1, by omega, by go_num, H2.out⟩
      case measure => simp [intOf]; omega
    · obtain rfl : k = 512 := by omega
      have H2 := Lib.hid (And.intro hrow hb)
      clear hrow hb
      go_wp2
      go_ret
      refine ⟨512, rfl, ?_, H2.out.2⟩
      have e : fillB 512 b = List.replicate 512 b := by unfold fillB zeros; simp
      have h := ownsRow_of_heap (n := 512) (cap := 512) (size := 1) (xs := bcells (List.replicate 512 b)) H2.out.1 (Nat.le_refl _) (by unfold maxLen; omega) (by simp [bcells_length, fillB_length]) (by rw [e]; simp; rw [List.take_of_length_le (by simp [bcells_length])]) (by simp [bcells_length])
      unfold OwnB
      rw [List.length_replicate]
      exact h

set_option maxRecDepth 100000 in
set_option maxHeartbeats 1000000 in
theorem reads_any {w0 w : World} {a : Nat} {d : DM} (h : Dd w0 w a d) (k : Nat) (hk : k + 1 ≤ d.size) (b : UInt8) (r : Bool) (hr : decide (readB d k 1 = List.replicate 512 b) = r) :
    Calls Try.prog 18 #[.pointer (some ⟨a, 0, none⟩), .int .i64 (k : Int), .int .u8 (b.toNat : Int)] w fun e w' => e = .returned (.bool r) ∧ Below w.heap.size w w' := by
  have hrd : Calls Try.prog 12 #[.pointer (some ⟨a, 0, none⟩), .int .i64 (k : Int), .int .i64 1] w fun e w' => ∃ v, e = .returned (.tuple #[v, .int .i64 0]) ∧ OwnB w' v (readB d k 1) ∧ Below w.heap.size w w' ∧ (∀ g, v.ownBlock = some g → w.heap.size ≤ g) := by
    obtain ⟨⟨F, h1, h2⟩, h3⟩ := h; exact read_ok h1 k 1 hk
  have HR := Lib.hid hrd
  have Hr := Lib.hid hr
  clear hrd hr h
  go_enter Try.func18, Try.ntmps18
  go_wp2_with (go_at_call 12; refine HR.out.mono ?_; rintro e w1 ⟨v, rfl, hown, hb1, _⟩; obtain ⟨a1, c1, rfl⟩ := hown.shape; have H1 := Lib.hid (And.intro hown.rd hb1); clear hown hb1 HR)
  obtain ⟨hrd, hb1⟩ := H1.out
  have hS1 : RdB w1.drew (.slice a1 (readB d k 1).length c1) (readB d k 1) := hrd.below (Below.refl _ _).drew
  have heq0 : ∀ W : World, (binOp .eql 26 (.int .i64 0) (.int .i64 0)).run Try.prog W = .ok (.bool true) W := by intro W; simp [go_sem]
  have heqs := run_eqs (readB d k 1) (List.replicate 512 b) r Hr.out
  refine plain_region_draws (fun W => RdB W (.slice a1 (readB d k 1).length c1) (readB d k 1)) (by kernel_rfl) hS1 (fun hS => ?_)
  refine take 0 15 (v := .int .i64 0) rfl rfl (by kernel_rfl) (by kernel_rfl) (by kernel_rfl) rfl (fun W hW => exec_move rfl rfl) (by assumption) ?_
  simp only [Act.put, List.setIfInBounds_toArray, List.set_cons_zero, List.set_cons_succ]
  refine take 1 16 (v := .bool true) rfl rfl (by kernel_rfl) (by kernel_rfl) (by kernel_rfl) rfl (fun W hW => exec_bini rfl rfl rfl (heq0 W)) (by assumption) ?_
  simp only [Act.put, List.setIfInBounds_toArray, List.set_cons_zero, List.set_cons_succ]
  refine take 2 17 (v := .bool true) rfl rfl (by kernel_rfl) (by kernel_rfl) (by kernel_rfl) rfl (fun W hW => exec_move rfl rfl) (by assumption) ?_
  simp only [Act.put, List.setIfInBounds_toArray, List.set_cons_zero, List.set_cons_succ]
  refine take 3 18 (v := .slice a1 (readB d k 1).length c1) rfl rfl (by kernel_rfl) (by kernel_rfl) (by kernel_rfl) rfl (fun W hW => exec_move rfl rfl) (by assumption) ?_
  simp only [Act.put, List.setIfInBounds_toArray, List.set_cons_zero, List.set_cons_succ]
  refine take 4 19 (v := .string (strB (readB d k 1))) rfl rfl (by kernel_rfl) (by kernel_rfl) (by kernel_rfl) rfl (fun W hW => exec_convert rfl rfl (run_str hW)) (by assumption) ?_
  simp only [Act.put, List.setIfInBounds_toArray, List.set_cons_zero, List.set_cons_succ]
  refine take 5 20 (v := .int .u8 (b.toNat : Int)) rfl rfl (by kernel_rfl) (by kernel_rfl) (by kernel_rfl) rfl (fun W hW => exec_move rfl rfl) (by assumption) ?_
  simp only [Act.put, List.setIfInBounds_toArray, List.set_cons_zero, List.set_cons_succ]
  refine onlyCall 6 21 rfl rfl (by kernel_rfl) rfl (exec_call [.int .u8 (b.toNat : Int)] rfl rfl Try.func17 (by kernel_rfl) (by kernel_rfl)) ?_
  refine (block_any b _).mono ?_
  rintro e w2 ⟨c2, rfl, hown2, hb2⟩
  have hS2 := hS1.below hb2
  refine ⟨_, rfl, .inr hS2, ?_⟩
  simp only [Act.put, List.setIfInBounds_toArray, List.set_cons_zero, List.set_cons_succ]
  refine onlyRun 7 22 (v := .string (strB (List.replicate 512 b))) rfl rfl (by kernel_rfl) rfl (exec_convert rfl rfl (run_str (by have h := hown2.rd; exact h))) (.inr hS2) ?_
  simp only [Act.put, List.setIfInBounds_toArray, List.set_cons_zero, List.set_cons_succ]
  refine take 8 23 (v := .bool r) rfl rfl (by kernel_rfl) (by kernel_rfl) (by kernel_rfl) rfl (fun W hW => exec_bins rfl rfl rfl (heqs W)) (by assumption) ?_
  simp only [Act.put, List.setIfInBounds_toArray, List.set_cons_zero, List.set_cons_succ]
  refine take 9 24 (v := .bool r) rfl rfl (by kernel_rfl) (by kernel_rfl) (by kernel_rfl) rfl (fun W hW => rfl) (by assumption) ?_
  simp only [Act.put, List.setIfInBounds_toArray, List.set_cons_zero, List.set_cons_succ]
  refine take 10 6 (v := .bool r) rfl rfl (by kernel_rfl) (by kernel_rfl) (by kernel_rfl) rfl (fun W hW => exec_assign rfl rfl) (by assumption) ?_
  simp only [Act.put, List.setIfInBounds_toArray, List.set_cons_zero, List.set_cons_succ]
  refine done (by kernel_rfl) ?_ _
  have Hfin := Lib.hid (hb1.trans (((Below.refl w1.heap.size w1).drew.trans hb2).mono hb1.size))
  clear hS hS1 hS2 hrd hb1 heq0 heqs hown2 hb2
  go_wp2
  go_ret
  exact ⟨rfl, Hfin.out⟩
end Go.Proofs.Ytmgajgeoibbmjaa
