/- The book: what is looked up on a disk. -/
import Derived.Test.YtfpmdagchbbkcaaIter
namespace Go.Proofs.Ytfpmdagchbbkcaa
open Go.RowKit

theorem results_cell_tmp_row {P : Program} {fn : Func} {p u : Tmp} {ty : TypeId} (h : fn.results = #[.cell p ty, .tmp u]) (tmps : Array Value) (w : World) (g : Nat) (t : TypeId) (cs : Array Value) (fr : Nat × Nat) (d : TypeDesc)
    (hp : tmps.getD p undef = .pointer (some ⟨g, 0, none⟩)) (hg : w.heap[g]? = some (.cells cs t fr))
    (hu : P.underlying ty = some d) (hd : (match d with | .struct _ | .array _ _ => true | _ => false) = true) (hi : (P.info? ty).map (·.size) = some cs.size) :
    (results fn tmps).run P w = .ok (.tuple #[.agg cs, tmps.getD u undef]) w := by
  rw [results_cell_tmp h, hp]
  simp [asAddr, Result.andThen, run_loadVar_row w g t ty cs fr d hg hu hd hi]

/-- A state's cells. -/
def stC (n : Int) (v : Value) (b : Bool) : Array Value := #[.int .i64 n, v, .bool b]
theorem run_store_st {W : World} {g : Nat} {cs : Array Value} {n : Int} {v : Value} {b : Bool} (h : W.heap[g]? = some (.cells cs 50 (0, 0))) (hs : cs.size = 3) (hv : v.oneCell' = true) :
    ∃ W', (storeVar 50 ⟨g, 0, none⟩ (.agg (stC n v b))).run Try.prog W = .ok () W' ∧ Touch (fun x => x = g) W W' ∧ W'.heap[g]? = some (.cells (stC n v b) 50 (0, 0)) := by
  have hr := run_storeVar_row (P := Try.prog) W g 50 50 cs (stC n v b) h (by kernel_rfl) hs (by simp [stC, hv]; exact ⟨rfl, rfl⟩)
  exact ⟨_, hr, ⟨rfl, rfl, rfl, by simp, fun x _ hne => setRow_other _ _ _ _ hne⟩, by rw [setRow_heap _ _ _ _ _ _ h]⟩
theorem run_load_st {W : World} {g : Nat} {n : Int} {v : Value} {b : Bool} (h : W.heap[g]? = some (.cells (stC n v b) 50 (0, 0))) :
    (loadVar 50 ⟨g, 0, none⟩).run Try.prog W = .ok (.agg (stC n v b)) W :=
  run_loadVar_row W g 50 50 _ (0, 0) _ h Try.underlying50 rfl (by kernel_rfl)

/-- No state. -/
def st0 : Value := .agg (stC 0 (.slice none 0 0) false)
theorem look_asked (q : Option Addr) (c : Int) (hc : (c == 0) = false) (w : World) (hk : Calls Try.prog 52 #[.pointer q] (w.alloc (.cells (#[.int .i64 0, .slice none 0 0, .bool false]) 50)) fun e w' => e = .returned (.int .i64 c) ∧ w.alloc (.cells (#[.int .i64 0, .slice none 0 0, .bool false]) 50) = w') :
    Calls Try.prog 35 #[.pointer q] w fun e w' => e = .returned (.tuple #[st0, .int .i64 c]) ∧ Below w.heap.size w w' := by
  have Hk := Lib.hid hk
  have hc' : (c != 0) = true := by simpa using hc
  clear hk
  go_enter Try.func35, Try.ntmps35
  go_wp2_with (go_at_call 52; refine Hk.out.mono ?_; rintro e w' ⟨rfl, rfl⟩)
  refine bodyPost_ret (results_cell_tmp_row rfl _ _ w.heap.size 50 (stC 0 (.slice none 0 0) false) (0, 0) _ rfl (heap_alloc_new w _) Try.underlying50 rfl (by kernel_rfl)) rfl ?_
  exact ⟨rfl, (Below.refl _ _).alloc (Nat.le_refl _) _⟩
theorem look_nil (w : World) : Calls Try.prog 35 #[.pointer none] w fun e w' => e = .returned (.tuple #[st0, .int .i64 1]) ∧ Below w.heap.size w w' :=
  look_asked _ 1 rfl w (asked_nil _)
theorem look_small {w : World} {F : Nat → Prop} {a : Nat} {d : DM} (h : Disk w F a d) (h4 : d.size < 4) : Calls Try.prog 35 #[.pointer (some ⟨a, 0, none⟩)] w fun e w' => e = .returned (.tuple #[st0, .int .i64 2]) ∧ Below w.heap.size w w' :=
  look_asked _ 2 rfl w (asked_small (h.below ((Below.refl _ _).alloc (Nat.le_refl _) _)) h4)

/-! ### the head with the highest number -/
def better (b x : Int × Int) : Int × Int := if b.1 < x.1 then x else b
def best (hs : List (Int × Int)) : Int × Int := hs.foldl better (0, 0)
theorem best_snoc (hs : List (Int × Int)) (x : Int × Int) : best (hs ++ [x]) = better (best hs) x := by simp [best]
theorem best_mem (hs : List (Int × Int)) : best hs = (0, 0) ∨ best hs ∈ hs := by
  have key : ∀ (hs : List (Int × Int)) (b : Int × Int), hs.foldl better b = b ∨ hs.foldl better b ∈ hs := by
    intro hs
    induction hs with
    | nil => exact fun b => .inl rfl
    | cons x r ih =>
      intro b
      rcases ih (better b x) with h | h
      · rw [List.foldl_cons, h]
        unfold better
        split
        · exact .inr (by simp)
        · exact .inl rfl
      · exact .inr (by rw [List.foldl_cons]; exact List.mem_cons_of_mem _ h)
  exact key hs _
theorem mem_upTo {α : Type} {f : Nat → Option α} {k : Nat} {x : α} (h : x ∈ upTo f k) : ∃ i, i < k ∧ f i = some x := by
  simp only [upTo, List.mem_filterMap, List.mem_range] at h
  exact h
theorem headOf_some {d : DM} {k : Nat} {x : Int × Int} (h : headOf d k = some x) : 1 ≤ x.1 ∧ x.1 ≤ 4611686018427387904 ∧ x.1.tmod 2 = (k : Int) ∧ 0 ≤ x.2 ∧ x.2 ≤ (hf d : Int) * 512 := by
  unfold headOf at h
  split at h
  · rename_i hc
    cases h
    simp only [headOk, Bool.and_eq_true, decide_eq_true_eq, beq_iff_eq] at hc
    exact ⟨hc.1.1.1.1.1, hc.1.1.1.1.2, hc.1.1.1.2, hc.1.1.2, hc.1.2⟩
  · cases h
theorem best_heads (d : DM) (k : Nat) : best (heads d k) = (0, 0) ∨ (1 ≤ (best (heads d k)).1 ∧ (best (heads d k)).1 ≤ 4611686018427387904 ∧ 0 ≤ (best (heads d k)).2 ∧ (best (heads d k)).2 ≤ (hf d : Int) * 512) := by
  rcases best_mem (heads d k) with h | h
  · exact .inl h
  · obtain ⟨i, _, hi⟩ := mem_upTo h
    have := headOf_some hi
    exact .inr ⟨this.1, this.2.1, this.2.2.2.1, this.2.2.2.2⟩
/-- What a disk holds. -/
def looked (d : DM) : Option (Int × List UInt8) :=
  if (best (heads d 2)).1 = 0 then none else some ((best (heads d 2)).1, (readB d (plc d (best (heads d 2)).1.toNat) (hf d)).take (best (heads d 2)).2.toNat)

theorem counting_any (q : Option Addr) (w : World) :
    Calls Try.prog 54 #[.pointer q] w fun e w' => e = .returned (.func (.func 62) #[] #[.pointer (some ⟨w.heap.size, 0, none⟩)]) ∧ w' = w.alloc (.cells #[.pointer q] 29) := by
  go_enter Try.func54, Try.ntmps54
  go_wp2
  go_ret
  exact ⟨rfl, rfl⟩
end Go.Proofs.Ytfpmdagchbbkcaa
