/- Two disks are held against each other: blocks, covers. -/
import Derived.Test.YtmgajgeoibbmjaaDoes2
import Derived.DeepKeys
namespace Go.Proofs.Ytmgajgeoibbmjaa
open Go.RowKit

theorem exec_binv {P : Program} {a : Act} {w w' : World} {o : Oper} {op : BinOp} {t t' : TypeId} {x y : Operand} {c d : Array Value} {v : Value} (ho : o.op = .binOp op t x y t') (hx : a.eval x = .agg c) (hy : a.eval y = .agg d) (hm : P.eqGuardType P.depth t = false)
    (hr : (binOp op t (.agg c) (.agg d)).run P w = .ok v w') : (execOp a.eval o).run P w = .ok (.value v) w' := by
  unfold execOp; rw [ho]; simp only [hx, hy, Sem.run_bind, run_eqGuard_agg w op t x y c d hm, hr, Result.andThen_ok, Sem.run_pure]
theorem info_u8' : ∃ i, Try.prog.info? 5 = some i ∧ i.zero = some (.int .u8 0) ∧ i.size = 1 ∧ i.bytes = 1 := info_parts (by kernel_rfl)
theorem eqItems_bytes (w : World) (l m : List UInt8) (d : Nat) : ∀ is : List Nat, (∀ i ∈ is, i < l.length ∧ i < m.length) → (Op.eqItems (d + 1) 5 1 (bcells l).toArray (bcells m).toArray is).run Try.prog w = .ok (is.all fun i => l[i]? == m[i]?) w
  | [], _ => by simp [Op.eqItems]
  | i :: is, h => by
    obtain ⟨h1, h2⟩ := h i (by simp)
    have ih := eqItems_bytes w l m d is (fun j hj => h j (by simp [hj]))
    have hp : Try.prog.plainKey 5 = true := by kernel_rfl
    have p1 := run_part_plain (P := Try.prog) w hp (xs := (bcells l).toArray) (off := i * 1) (v := .int .u8 (l[i].toNat : Int)) (by simp [bcells, h1])
    have p2 := run_part_plain (P := Try.prog) w hp (xs := (bcells m).toArray) (off := i * 1) (v := .int .u8 (m[i].toNat : Int)) (by simp [bcells, h2])
    have p3 := run_equalIn_int (P := Try.prog) (w := w) d 5 .u8 .u8 (l[i].toNat : Int) (m[i].toNat : Int) Try.underlying5
    simp only [Op.eqItems, Sem.run_bind, p1, p2, p3, Result.andThen_ok, List.all_cons]
    have e1 : l[i]? = some l[i] := by simp [h1]
    have e2 : m[i]? = some m[i] := by simp [h2]
    rw [e1, e2]
    by_cases hc : l[i] = m[i]
    · rw [hc]; simpa using ih
    · have hn : ((l[i].toNat : Int) == (m[i].toNat : Int)) = false := by
        rw [beq_eq_false_iff_ne]; intro e; exact hc (UInt8.toNat_inj.1 (by omega))
      have hn2 : (some l[i] == some m[i]) = false := by rw [beq_eq_false_iff_ne]; intro e; exact hc (Option.some.inj e)
      rw [hn, hn2]; simp
theorem all_eq (l m : List UInt8) (n : Nat) (hl : l.length = n) (hm : m.length = n) : ((List.range n).all fun i => l[i]? == m[i]?) = decide (l = m) := by
  rw [Bool.eq_iff_iff, List.all_eq_true, decide_eq_true_iff]
  constructor
  · intro h
    apply List.ext_getElem?
    intro i
    by_cases hi : i < n
    · simpa using h i (List.mem_range.2 hi)
    · rw [List.getElem?_eq_none (by omega), List.getElem?_eq_none (by omega)]
  · rintro rfl i _; simp
theorem run_ne_blk (w : World) (l m : List UInt8) (hl : l.length = 512) (hm : m.length = 512) : (binOp .neq 69 (.agg (bcells l).toArray) (.agg (bcells m).toArray)).run Try.prog w = .ok (.bool (!decide (l = m))) w := by
  obtain ⟨i, i1, _, i3, _⟩ := info_u8'
  have hc : Try.prog.cellsOf 5 = 1 := by kernel_rfl
  rw [run_neq_struct, show (10000 : Nat) = 9998 + 1 + 1 from rfl, run_equalIn_array (P := Try.prog) w (9998 + 1) _ _ Try.underlying69 i1, hc, eqItems_bytes w l m 9998 _ (fun i hi => by have := List.mem_range.1 hi; omega), all_eq l m 512 hl hm]
  rfl

/-- Each block of one is that of another. -/
noncomputable def covB (x y : Int → Option (List UInt8)) : Bool := @decide (∀ k l, x k = some l → (y k).getD zblk = l) (Classical.propDecidable _)
theorem covB_iff {x y : Int → Option (List UInt8)} : covB x y = true ↔ ∀ k l, x k = some l → (y k).getD zblk = l := by unfold covB; exact @decide_eq_true_iff _ (Classical.propDecidable _)
theorem guard_blk : Try.prog.eqGuardType Try.prog.depth 69 = false := by kernel_rfl
set_option maxRecDepth 100000 in
set_option maxHeartbeats 2000000 in
theorem covers_any {w : World} {ba bb : Nat} {x y : Int → Option (List UInt8)} (ha : IntMap w ba (fun k => (x k).map blkV)) (hb : IntMap w bb (fun k => (y k).map blkV)) (hlx : ∀ k l, x k = some l → l.length = 512) (hly : ∀ k l, y k = some l → l.length = 512) :
    Calls Try.prog 35 #[.map (some ba), .map (some bb)] w fun e w' => e = .returned (.bool (covB x y)) ∧ Below w.heap.size w w' := by
  have hba := ha.lt
  obtain ⟨w0, hrun, hR0, hB0, hsz0⟩ := rng_start (P := Try.prog) (T := 48) ha Try.underlying48
  have HR0 := Lib.hid (And.intro hR0 (And.intro hB0 (And.intro hsz0 hba)))
  have HB := Lib.hid hb
  have Hl := Lib.hid (And.intro hlx hly)
  clear hR0 hB0 hsz0 hba ha hb hlx hly
  go_enter Try.func35, Try.ntmps35
  go_wp2
  go_loopw [5] (fun _ wr => ∃ ks, Rng wr w.heap.size ba (fun k => (x k).map blkV) ks ∧ (∀ k ∈ ks, ∀ l, x k = some l → (y k).getD zblk = l) ∧ Below w.heap.size w wr) (fun _ wr => rngLeft wr w.heap.size ba)
  case atStart => exact ⟨[], HR0.out.1, by simp, HR0.out.2.1⟩
  case round =>
    obtain ⟨ks, hR, hok, hB⟩ := hrel
    have hsz : w.heap.size < wr.heap.size := hR.lt
    rcases rng_step (P := Try.prog) hR with ⟨hnx, hall⟩ | ⟨k, v, w1, hnx, hv, hk, hR1, hT1, hsz1, hlt, hen⟩
    · have Hfin : Hid (covB x y = true ∧ Below w.heap.size w wr) :=
        Lib.hid ⟨covB_iff.2 fun k l hk => hok k (hall k (by rw [hk]; rfl)) l hk, hB⟩
      clear hR hok hB hall
      go_wp2
      go_ret
      exact ⟨ret_bool Hfin.out.1.symm, Hfin.out.2⟩
    · obtain ⟨l, hsl, rfl⟩ : ∃ l, x k = some l ∧ blkV l = v := by
        cases hs : x k with
        | none => rw [hs] at hv; cases hv
        | some l => rw [hs] at hv; exact ⟨l, rfl, Option.some.inj hv⟩
      have hlen := Hl.out.1 k l hsl
      have hBb : Below w1.heap.size w1 (w1.alloc (.cells Try.zeroCells69 69)) := (Below.refl _ _).alloc (Nat.le_refl _) _
      obtain ⟨W1, hst1, hT2, hN1⟩ := run_store_blk (heap_alloc_new w1 (.cells Try.zeroCells69 69)) zero_size hlen
      have hTW : Below w1.heap.size w1 W1 := hT2.below hBb (fun b hb e => by omega) (by simp)
      have hld := run_load_blk hN1 hlen
      have hB1 : Below w.heap.size w w1 := hT1.below hB (fun b hb e => by omega) hB.size
      have hB2 : Below w.heap.size w W1 := hB1.trans (hTW.mono hB1.size)
      have hM : IntMap W1 bb (fun k => (y k).map blkV) := HB.out.of_heap (hB2.block _ HB.out.lt)
      have hyl : ((y k).getD zblk).length = 512 := by
        cases hy : y k with
        | none => exact zblk_length
        | some m => exact Hl.out.2 k m hy
      have hlk : (Instr.lookup 48 (.map (some bb)) (.int .i64 k) false).run Try.prog W1 = .ok (blkV ((y k).getD zblk)) W1 := by
        have := run_lookup_int (P := Try.prog) hM Try.underlying48 Try.underlying3 Try.zeroValue69 k
        rw [this]
        cases y k with
        | none => exact congrArg (fun v => Result.ok v W1) zero_blk
        | some l => rfl
      have hne := run_ne_blk W1 l ((y k).getD zblk) hlen hyl
      have hR2 := hR1.below hTW
      have hleft : rngLeft W1 w.heap.size ba < rngLeft wr w.heap.size ba := by
        have : rngLeft W1 w.heap.size ba = rngLeft w1 w.heap.size ba := hR1.left_touch (Touch.of_below hTW (S := fun b => w1.heap.size ≤ b) (fun b hb hle => hle)) (by have := hR1.lt; omega) (by have := HR0.out.2.2.2; omega)
        rw [this]; exact hlt
      have Hst := Lib.hid hst1
      have Hld := Lib.hid hld
      have Hlk := Lib.hid hlk
      have hen1 := hen w1 hR1
      by_cases hc : l = (y k).getD zblk
      · rw [decide_eq_true hc] at hne
        have hne : _ = Result.ok (Value.bool false) W1 := hne
        have Hne := Lib.hid hne
        have hfin : Rng W1 w.heap.size ba (fun k => (x k).map blkV) (ks ++ [k]) ∧ (∀ j ∈ ks ++ [k], ∀ l, x j = some l → (y j).getD zblk = l) ∧ Below w.heap.size w W1 ∧ rngLeft W1 w.heap.size ba < rngLeft wr w.heap.size ba := by
          refine ⟨hR2, fun j hj l' hl' => ?_, hB2, hleft⟩
          rcases List.mem_append.1 hj with hj | hj
          · exact hok j hj l' hl'
          · simp only [List.mem_singleton] at hj
            subst hj
            rw [hsl] at hl'
            cases hl'
            exact hc.symm
        have Hf := Lib.hid hfin
        clear hfin hne hld hlk hst1 hR2 hleft hM hB1 hB2 hTW hN1 hT2 hBb hlen hyl hsl hen hR1 hT1 hsz1 hlt hk hv hR hok hB hc
        go_wp2_with (first
          | (refine wpList_store (v := blkV l) rfl 69 _ _ _ rfl rfl rfl Hst.out ?_)
          | (refine wpList_load rfl 69 _ _ rfl rfl Hld.out ?_)
          | (refine wpList_run rfl (exec_lookup rfl rfl rfl Hlk.out) ?_; simp only [Act.put, List.setIfInBounds_toArray, List.set_cons_zero, List.set_cons_succ])
          | (refine wpList_run rfl (exec_binv rfl rfl rfl guard_blk Hne.out) ?_; simp only [Act.put, List.setIfInBounds_toArray, List.set_cons_zero, List.set_cons_succ]))
        go_roundw
        case rel => exact ⟨_, Hf.out.1, Hf.out.2.1, Hf.out.2.2.1⟩
        case measure => exact Hf.out.2.2.2
      · rw [decide_eq_false hc] at hne
        have Hne := Lib.hid hne
        have Hfin : Hid (covB x y = false ∧ Below w.heap.size w W1) :=
          Lib.hid ⟨Bool.eq_false_iff.2 fun h => hc (covB_iff.1 h k l hsl).symm, hB2⟩
        clear hne hld hlk hst1 hR2 hleft hM hB1 hB2 hTW hN1 hT2 hBb hlen hyl hsl hen hR1 hT1 hsz1 hlt hk hv hR hok hB hc
        go_wp2_with (first
          | (refine wpList_store (v := blkV l) rfl 69 _ _ _ rfl rfl rfl Hst.out ?_)
          | (refine wpList_load rfl 69 _ _ rfl rfl Hld.out ?_)
          | (refine wpList_run rfl (exec_lookup rfl rfl rfl Hlk.out) ?_; simp only [Act.put, List.setIfInBounds_toArray, List.set_cons_zero, List.set_cons_succ])
          | (refine wpList_run rfl (exec_binv rfl rfl rfl guard_blk Hne.out) ?_; simp only [Act.put, List.setIfInBounds_toArray, List.set_cons_zero, List.set_cons_succ]))
        go_ret
        exact ⟨ret_bool Hfin.out.1.symm, Hfin.out.2⟩
end Go.Proofs.Ytmgajgeoibbmjaa
