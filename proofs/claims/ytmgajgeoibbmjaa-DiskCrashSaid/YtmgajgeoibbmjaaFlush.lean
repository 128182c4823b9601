/- The disk: Flush. -/
import Derived.Test.YtmgajgeoibbmjaaRead
namespace Go.Proofs.Ytmgajgeoibbmjaa
open Go.RowKit

section
variable {P : Program} {w w' : World} {a : Act} {o : Oper} {v : Value}
theorem exec_clear {x : Operand} {t : TypeId} {vx : Value} (ho : o.op = .call { callee := .builtin .clear, args := #[x], argTypes := #[t] }) (hx : a.eval x = vx)
    (hr : (Builtin.clear_ #[t] o.type #[vx]).run P w = .ok v w') : (execOp a.eval o).run P w = .ok (.value v) w' := by
  unfold execOp
  simp only [ho, resolve, invoke, builtin, Sem.run_bind, Sem.run_pure, Result.andThen_ok, List.map_toArray, List.map_cons, List.map_nil, hx, hr]
theorem run_clear_int {T K E : TypeId} {b : Nat} {m : Int → Option Value} (h : IntMap w b m) (hT : P.underlying T = some (.map K E)) (ty : TypeId) :
    ∃ w', (Builtin.clear_ #[T] ty #[.map (some b)]).run P w = .ok (.tuple #[]) w' ∧ Touch (fun x => x = b) w w' ∧ IntMap w' b (fun _ => none) ∧ w'.heap.size = w.heap.size := by
  obtain ⟨es, clk, hb, hg, hm⟩ := h
  refine ⟨w.putObj b (.map #[] clk), ?_, (Touch.refl _ _).putObj (.inl (by exact rfl)) _, ⟨#[], clk, putObj_self hb, ⟨by simp, by simp [keysOf], by simp, by simp⟩, fun _ => rfl⟩, by simp⟩
  simp [Builtin.clear_, run_underlying hT, getObj, setObj, Sem.run_bind, Sem.run, hb, Result.andThen, World.putObj]
end

/-- What was written since the last flush lasts. -/
def DM.flushed (d : DM) : DM := { d with lasting := d.seen, since := fun _ => none }
theorem DM.Ok.flushed {d : DM} (h : d.Ok) : d.flushed.Ok := ⟨h.pos, h.most, h.seen, h.seen, fun k l hl => by cases hl⟩

theorem flush_mid {w1 : World} {F : Nat → Prop} {a : Nat} {d : DM} {L S C X : Nat} {mc : Int → Option Value} (hok : d.Ok) (hA : DiskAt w1 F a d L S C X mc) :
    ∃ es clk w2 W3 W4, w1.heap[S]? = some (.map es clk) ∧ w1.alloc (.map es clk) = w2 ∧ w2.cell? ⟨a, 1, none⟩ = some (.map (some L)) ∧ w2.frozen? ⟨a, 1, none⟩ = false ∧ w2.setCell ⟨a, 1, none⟩ (.map (some w1.heap.size)) = W3 ∧
      W3.cell? ⟨a, 3, none⟩ = some (.map (some C)) ∧ (Builtin.clear_ #[49] 0 #[.map (some C)]).run Try.prog W3 = .ok (.tuple #[]) W4 ∧
      Disk W4 (fun b => F b ∨ w1.heap.size ≤ b) a d.flushed ∧ Touch F w1 W4 := by
  obtain ⟨es, clk, hb, hg, hm⟩ := hA.seen
  have hT2 : Touch (fun _ => False) w1 (w1.alloc (.map es clk)) := (Touch.refl _ _).alloc _
  have h2 : DiskAt (w1.alloc (.map es clk)) F a d L S C X mc := hA.touch hT2 (fun _ _ h => h)
  have hnew : IntMap (w1.alloc (.map es clk)) w1.heap.size (fun k => (d.seen k).map blkV) := ⟨es, clk, heap_alloc_new _ _, hg, hm⟩
  have hB2 : (w1.alloc (.map es clk)).heap.size = w1.heap.size + 1 := by simp
  have hlt : ∀ b ∈ [a, L, S, C, X], b < w1.heap.size := by
    intro b hb
    simp only [List.mem_cons, List.not_mem_nil, or_false] at hb
    rcases hb with rfl | rfl | rfl | rfl | rfl
    · exact hA.lt
    · exact hA.lasting.lt
    · exact hA.seen.lt
    · exact hA.since.lt
    · exact hA.fails.lt
  generalize hw2 : w1.alloc (.map es clk) = w2 at *
  have c1 : w2.cell? ⟨a, 1, none⟩ = some (.map (some L)) := cellOf h2.cells rfl
  have f1 : w2.frozen? ⟨a, 1, none⟩ = false := freeOf h2.cells
  have hcell := heap_setCell_same w2 a 1 _ _ (Value.map (some w1.heap.size)) h2.cells
  have hoth : ∀ b, b ≠ a → (w2.setCell ⟨a, 1, none⟩ (.map (some w1.heap.size))).heap[b]? = w2.heap[b]? := fun b hb => Below.heap_setCell w2 ⟨a, 1, none⟩ _ b hb
  have hT3 : Touch (fun b => b = a) w2 (w2.setCell ⟨a, 1, none⟩ (.map (some w1.heap.size))) := (Touch.refl _ _).setCell (.inl (by exact rfl)) _
  generalize hW3 : w2.setCell ⟨a, 1, none⟩ (.map (some w1.heap.size)) = W3 at *
  have hcell3 : W3.heap[a]? = some (.cells (diskCells d.size w1.heap.size S C X d.steps) 52 (0, 0)) := hcell
  have c3 : W3.cell? ⟨a, 3, none⟩ = some (.map (some C)) := cellOf hcell3 rfl
  have hnd := hA.nodup
  have haL := hlt a (by simp); have hLL := hlt L (by simp); have hSL := hlt S (by simp); have hCL := hlt C (by simp); have hXL := hlt X (by simp)
  simp only [List.nodup_cons, List.mem_cons, List.not_mem_nil, or_false, not_or, not_false_iff, List.nodup_nil, and_true] at hnd
  obtain ⟨⟨n1, n2, n3, n4⟩, ⟨n5, n6, n7⟩, ⟨n8, n9⟩, n10⟩ := hnd
  have hC3 : IntMap W3 C mc := h2.since.of_heap (hoth C (by omega))
  obtain ⟨W4, hcl, hT4, hM4, hs4⟩ := run_clear_int (P := Try.prog) hC3 Try.underlying49 0
  refine ⟨es, clk, w2, W3, W4, hb, hw2, c1, f1, hW3, c3, hcl, ⟨hok.flushed, w1.heap.size, S, C, X, fun _ => none, ?_⟩, ?_⟩
  · refine ⟨hT4.heap hcell3 (by omega), ?_, ?_, ?_, ?_, ?_, hM4, ⟨fun k => .inl ⟨rfl, rfl⟩, fun k k' v v' g h => by cases h⟩⟩
    · simp only [List.nodup_cons, List.mem_cons, List.not_mem_nil, or_false, not_or, not_false_iff, List.nodup_nil, and_true]; omega
    · intro b hb'
      simp only [List.mem_cons, List.not_mem_nil, or_false] at hb'
      rcases hb' with rfl | rfl | rfl | rfl | rfl
      · exact .inl (hA.foot _ (by simp))
      · exact .inr (Nat.le_refl _)
      · exact .inl (hA.foot _ (by simp))
      · exact .inl (hA.foot _ (by simp))
      · exact .inl (hA.foot _ (by simp))
    · exact (hnew.of_heap (hoth _ (by omega))).touch hT4 (by omega)
    · exact (h2.seen.of_heap (hoth _ (by omega))).touch hT4 (by omega)
    · exact (h2.fails.of_heap (hoth _ (by omega))).touch hT4 (by omega)
  · refine ((hT2.mono (fun _ _ h => h.elim)).step hT3 (fun b _ e => ?_)).step hT4 (fun b _ e => ?_)
    · rw [e]; exact hA.foot a (by simp)
    · rw [e]; exact hA.foot C (by simp)

set_option maxRecDepth 100000 in
set_option maxHeartbeats 1000000 in
theorem flush_ok {w : World} {F : Nat → Prop} {a : Nat} {d : DM} (hd : Disk w F a d) (hst : d.steps < 1073741824) :
    Calls Try.prog 19 #[.pointer (some ⟨a, 0, none⟩)] w fun e w' =>
      e = .returned (.int .i64 (if d.failing then 300 else 0)) ∧ Disk w' (fun b => F b ∨ w.heap.size ≤ b) a (if d.failing then d.stepped else d.stepped.flushed) ∧ Touch F w w' := by
  have Hn := Lib.hid (none_disk hd)
  have Hs := Lib.hid (step_any hd hst)
  have Haf : Hid (F a) := by
    obtain ⟨_, L, S, C, X, mc, hA⟩ := hd
    exact Lib.hid (hA.foot a (by simp))
  clear hst hd
  cases hfl : d.failing with
  | true =>
    go_enter Try.func19, Try.ntmps19
    go_wp2_with (first
      | (go_at_call 28; refine Hn.out.mono ?_; rintro e w1 ⟨rfl, rfl⟩)
      | (go_at_call 43; refine Hs.out.mono ?_; rintro e w1 ⟨rfl, hd1, hT, hsz⟩; have H1 := Lib.hid hd1; have H2 := Lib.hid hT; clear hd1 hT hsz))
    go_ret
    exact ⟨rfl, H1.out.mono fun b h => .inl h, H2.out.mono fun b _ e => by rw [e]; exact Haf.out⟩
  | false =>
    go_enter Try.func19, Try.ntmps19
    go_wp2_with (first
      | (go_at_call 28; refine Hn.out.mono ?_; rintro e w1 ⟨rfl, rfl⟩)
      | (go_at_call 43; refine Hs.out.mono ?_; rintro e w1 ⟨rfl, ⟨ok1, L, S, C, X, mc, hA⟩, hT, hsz⟩; have c2 : w1.cell? ⟨a, 2, none⟩ = some (.map (some S)) := cellOf hA.cells rfl; obtain ⟨es, clk, w2, W3, W4, hb, hw2, c1, f1, hW3, c3, hcl, hd4, hT4⟩ := flush_mid ok1 hA; have HT := Lib.hid hT; have Hsz := Lib.hid hsz; have Hb := Lib.hid hb; have Hw2 := Lib.hid hw2; have Hcl := Lib.hid hcl; have Hd4 := Lib.hid hd4; have HT4 := Lib.hid hT4; clear hT hsz hb hA ok1 hw2 hcl hd4 hT4)
      | (go_at_call 45; refine (mapsClone_any _ _ _ _ Hb.out).mono ?_; rintro e w2' ⟨rfl, hw⟩; rw [Hw2.out] at hw; subst hw)
      | (refine wpList_run rfl (exec_clear rfl rfl Hcl.out) ?_))
    go_ret
    refine ⟨rfl, Hd4.out.mono fun b h => ?_, (HT.out.mono fun b _ e => by rw [e]; exact Haf.out).trans HT4.out⟩
    have := Hsz.out
    rcases h with h | h
    · exact .inl h
    · exact .inr (by omega)
end Go.Proofs.Ytmgajgeoibbmjaa
