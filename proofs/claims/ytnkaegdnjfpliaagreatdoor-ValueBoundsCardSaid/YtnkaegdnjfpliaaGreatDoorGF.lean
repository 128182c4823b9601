/- Texts that the proofs of this layer share. -/
import Derived.Test.YtnkaegdnjfpliaaGreatDoorGE
import Derived.Test.YtnkaegdnjfpliaaGreatDoorGD
import Derived.Test.YtnkaegdnjfpliaaGreatDoorGB
import Derived.Test.YtnkaegdnjfpliaaGreatDoorGC
/-! A box, and a copy with something to spare in a box of its own: what the laws of one value keep. -/
namespace Go.Proofs.YtnkaegdnjfpliaaGreatDoor
set_option linter.unusedSimpArgs false
set_option linter.unusedVariables false
open Go.RowKit

theorem exec_extract {P : Program} {a : Act} {w : World} {o : Oper} {x : Operand} {k : Nat} {vs : Array Value} {v : Value} (ho : o.op = .extract x k) (hx : a.eval x = .tuple vs) (hv : vs[k]? = some v) : (execOp a.eval o).run P w = .ok (.value v) w := by
  unfold execOp; rw [ho]; simp only [hx]; simp [go_sem, hv]
/-- What lies while a law of one value asks. -/
structure OneC (w : World) (X : Array Value) (a : V) (p : Nat) (P : Nat → Prop) (y : Array Value) (W : World) : Prop where
  one : OneB w W X
  hm : W.heap[p]? = some (.cells y 26 (0, 0))
  sm : VSp W P a y
theorem OneC.keep {w W W' : World} {X : Array Value} {a : V} {p : Nat} {P : Nat → Prop} {y : Array Value} (h : OneC w X a p P y W) (g : Below W.heap.size W W') : OneC w X a p P y W' :=
  ⟨h.one.below g, (g.block _ (Array.getElem?_eq_some_iff.1 h.hm).1).trans h.hm, h.sm.below g⟩
theorem OneB.row {w W : World} {X : Array Value} (h : OneB w W X) {p : Nat} (hp : w.heap.size + 1 ≤ p) (cs : Array Value) : OneB w (W.setRow p cs) X := by
  have hT : Touch (fun q => q = p) W (W.setRow p cs) := ⟨rfl, rfl, rfl, by simp, fun q _ hq => setRow_other W p q _ hq⟩
  exact ⟨(setRow_other W p _ cs (by omega)).trans h.1, hT.below h.2 (fun q hq e => by omega) h.2.size⟩
/-- The copy is put into its box. -/
theorem OneC.made {w W : World} {X : Array Value} {a : V} {l1 : Nat} {x0 x1 x2 x3 x4 x5 : Value} (hT : OneB w W X) (sm : VSp W (In l1 W.heap.size) a #[x0, x1, x2, x3, x4, x5]) :
    ∃ W2, (storeVar 26 ⟨W.heap.size, 0, none⟩ (.agg #[x0, x1, x2, x3, x4, x5])).run Tryz.prog (W.alloc (.cells #[.int .i64 0, .bool false, .int .i64 0, .string ⟨#[]⟩, .slice none 0 0, .slice none 0 0] 26)) = .ok () W2 ∧ OneC w X a W.heap.size (In l1 W.heap.size) #[x0, x1, x2, x3, x4, x5] W2 ∧
      Below W.heap.size W W2 := by
  have hlt := (Array.getElem?_eq_some_iff.1 hT.1).1
  have hbn := below_new (w := W) (.cells #[.int .i64 0, .bool false, .int .i64 0, .string ⟨#[]⟩, .slice none 0 0, .slice none 0 0] 26)
  have hp := heap_alloc_new W (.cells #[.int .i64 0, .bool false, .int .i64 0, .string ⟨#[]⟩, .slice none 0 0, .slice none 0 0] 26)
  have hT1 := hT.below hbn
  have s1 := sm.below hbn
  have hz : W.heap.size ≤ (W.alloc (.cells #[.int .i64 0, .bool false, .int .i64 0, .string ⟨#[]⟩, .slice none 0 0, .slice none 0 0] 26)).heap.size := hbn.size
  generalize W.alloc (.cells #[.int .i64 0, .bool false, .int .i64 0, .string ⟨#[]⟩, .slice none 0 0, .slice none 0 0] 26) = W1 at *
  have hst := run_storeVar_row (P := Tryz.prog) W1 W.heap.size 26 26 _ #[x0, x1, x2, x3, x4, x5] hp (by kernel_rfl) rfl (by simpa using sm.ones)
  have hT : Touch (fun q => q = W.heap.size) W1 (W1.setRow W.heap.size #[x0, x1, x2, x3, x4, x5]) := ⟨rfl, rfl, rfl, by simp, fun q _ hq => setRow_other W1 _ q _ hq⟩
  exact ⟨_, hst, ⟨hT1.row (by omega) _, setRow_heap W1 _ _ _ _ _ hp, s1.keep fun b hb _ => setRow_other W1 _ b _ (by have := hb.2; omega)⟩, hT.below hbn (fun q hq e => by omega) hz⟩
section
variable {w W : World} {X : Array Value} {a : V} {p : Nat} {P : Nat → Prop} {y : Array Value}
theorem OneC.below (h : OneC w X a p P y W) : Below w.heap.size w W := h.one.2
theorem OneC.rm (h : OneC w X a p P y W) (ht : totV a ≤ 1000000) : VRd W a y := h.sm.open ht
theorem OneC.kept (h : OneC w X a p P y W) (hv : VRd w a X) (ht : totV a ≤ 1000000) : Calls Tryz.prog 22 #[.agg y, .agg X] W fun e w' => e = .returned (.bool true) ∧ OneC w X a p P y w' :=
  (kept_any a P W y X ht h.sm (hv.below h.one.2)).mono fun _ _ h' => ⟨h'.1, h.keep h'.2⟩
theorem OneC.works (h : OneC w X a p P y W) (hE : Env w) : Calls Tryz.prog 16 #[] W fun e w' => e = .returned (.bool true) ∧ OneC w X a p P y w' :=
  (works_any (hE.b h.one.2)).mono fun _ _ h' => ⟨h'.1, h.keep h'.2⟩
theorem OneC.checkR (h : OneC w X a p P y W) (hv : VRd w a X) (ht : totV a ≤ 1000000) {c : Int} (hc : checkV Lib.validD a = c) : Calls Tryz.prog 28 #[.agg X] W fun e w' => e = .returned (.int .i64 c) ∧ OneC w X a p P y w' :=
  (checkR_any (by omega) (hv.below h.one.2)).mono fun _ _ h' => by rw [hc] at h'; exact ⟨h'.1, h.keep h'.2⟩
end
end Go.Proofs.YtnkaegdnjfpliaaGreatDoor

/-! The document's Quote, Plain, Name. Printed by gen_refq.py. -/
namespace Go.Proofs.YtnkaegdnjfpliaaGreatDoor
set_option linter.unusedSimpArgs false
set_option linter.unusedVariables false
open Go.RowKit

/-! ### A buffer of bytes that the call itself made -/
def byteV (c : UInt8) : Value := .int .u8 (c.toNat : Int)
theorem info_u8v : ∃ i, Tryz.prog.info? 5 = some i ∧ i.zero = some (.int .u8 0) ∧ i.size = 1 ∧ i.bytes = 1 := info_parts (by kernel_rfl)
structure Buf (w W : World) (o : Value) (l : List UInt8) : Prop where
  own : OwnsP W (fun b => w.heap.size ≤ b) 5 1 o l.length (l.map byteV)
  b : Below w.heap.size w W
theorem Buf.below {w W W' : World} {o : Value} {l : List UInt8} (h : Buf w W o l) (g : Below W.heap.size W W') : Buf w W' o l := ⟨h.own.keep fun b _ hb => g.block b hb, below_trans h.b g⟩
theorem Buf.start {w W : World} (hb : Below w.heap.size w W) {m : List UInt8} {cs : Array Value} (hc : cs.toList = m.map byteV) (hn : m.length ≤ 1000000) : Buf w (W.alloc (.cells cs 5)) (.slice (some ⟨W.heap.size, 0, none⟩) m.length m.length) m := by
  have hs : cs.size = m.length := by have := congrArg List.length hc; simpa using this
  refine ⟨⟨ownsRow_of_heap (heap_alloc_new W _) (Nat.le_refl _) (by unfold maxLen; omega) (by rw [hs]; omega) ?_ (by simp), fun g hg => by cases hg; exact hb.size⟩, below_trans hb (below_new _)⟩
  rw [Nat.mul_one, hc, List.take_of_length_le (by simp)]
theorem Buf.step {w W : World} {o : Value} {l : List UInt8} (h : Buf w W o l) {g : Nat} {m : List UInt8} {cs : Array Value} (hg : W.heap[g]? = some (.cells cs 5 (0, 0))) (hc : cs.toList = m.map byteV) (hn : l.length + m.length ≤ 70368744177664) (ty : TypeId) :
    ∃ v W', (Builtin.append_ #[68, 68] ty #[o, .slice (some ⟨g, 0, none⟩) m.length m.length]).run Tryz.prog W = .ok v W' ∧ Buf w W' v (l ++ m) := by
  obtain ⟨i, i1, i2, i3, i4⟩ := info_u8v
  have hsz := h.b.size
  obtain ⟨v', W', a1, a2, a3, a4, a5⟩ := append_law (P := Tryz.prog) (w := W) 68 ty 5 i _ 1 1 Tryz.underlying68 i1 i2 i3 i4 rfl o l.length _ h.own.1 ⟨g, 0, none⟩ m.length m.length (m.map byteV)
    (by simp) (fun j u hu => by
      rw [addr_add, Nat.zero_add]
      refine cellOf hg ?_
      rw [← hc] at hu; simpa using hu) (fun u hu => by obtain ⟨s, _, rfl⟩ := List.mem_map.1 hu; rfl) (by unfold maxLen; omega) (by omega)
  refine ⟨v', W', a1, ⟨?_, fun q hq => ?_⟩, ?_⟩
  · rw [List.length_append, List.map_append]; exact a2
  · rcases a4 with e | e
    · exact h.own.2 q (e.symm.trans hq)
    · rw [e] at hq; cases hq; exact hsz
  · exact a3.below h.b (fun b hb e => by have := h.own.2 b e; omega) hsz
theorem foldl_push (l : List UInt8) : ∀ s : ByteArray, (l.map fun b => ((b.toNat : Int))).foldl (fun r n => r.push (UInt8.ofNat n.toNat)) s = ⟨s.data ++ l.toArray⟩ := by
  induction l with
  | nil => intro s; simp
  | cons b l ih =>
    intro s
    simp only [List.map_cons, List.foldl_cons]
    rw [ih]
    congr 1
    simp [ByteArray.push]
/-- The buffer, as a string. -/
theorem Buf.str {w W : World} {o : Value} {l : List UInt8} (h : Buf w W o l) : (convert 68 9 o).run Tryz.prog W = .ok (.string (strB l)) W := by
  have hcells := fun (g : Nat) (e : o.ownBlock = some g) => h.own.1.cells (g := g) e
  rcases h.own.1.2 with ⟨rfl, e⟩ | ⟨g, cap, cur, rfl, _⟩
  · have hl : l = [] := List.eq_nil_of_length_eq_zero e
    subst hl
    rw [run_convert_bytes_string W _ _ 5 _ _ _ Tryz.underlying68 Tryz.underlying5 Tryz.underlying9]
    rfl
  · rw [run_convert_bytes_string W _ _ 5 _ _ _ Tryz.underlying68 Tryz.underlying5 Tryz.underlying9]
    have hl := run_loadCells_list (P := Tryz.prog) W ⟨g, 0, none⟩ ((l.map fun b => ((b.toNat : Int))).map (Value.int .u8)) (fun j v hv => by
      refine hcells g rfl j v ?_
      rw [List.map_map] at hv
      exact hv)
    simp only [List.length_map] at hl
    rw [run_bytesToString W ⟨g, 0, none⟩ l.length cap _ hl, foldl_push]
    simp [strB]
/-! ### Plain -/
set_option maxRecDepth 100000 in
set_option maxHeartbeats 8000000 in
theorem plainR_any (s : List UInt8) (hs : s.length ≤ 140737488355328) (w : World) : Calls Tryz.prog 72 #[.string (strB s)] w fun e w' => e = .returned (.bool (plainB s)) ∧ w = w' := by
  have z1 : (s.length : Int) ≤ 140737488355328 := by omega
  generalize hP : plainB s = P
  have HP := Lib.hid hP
  have hsz : (strB s).size = s.length := rfl
  clear hP hs
  go_enter Tryz.func72, Tryz.ntmps72
  go_wp2
  go_loopw [3] (fun i W => ∃ j : Nat, j ≤ s.length ∧ i = .int .i64 (j : Int) ∧ Hid (j = 0 ∨ plainB (s.take j) = true) ∧ w = W) (fun i _ => s.length - (intOf i).toNat)
  case atStart => exact ⟨0, Nat.zero_le _, rfl, Lib.hid (.inl rfl), rfl⟩
  case round =>
    obtain ⟨j, hj, rfl, HQ, rfl⟩ := hrel
    by_cases hlt : j < s.length
    · have hlt1 : j + 1 ≤ s.length := hlt
      have hx := fun W => index_str s j hlt W
      have hst := plainB_step hlt HQ.out
      have h95 : (s[j] == 95) = decide (s[j].toNat = 95) := by
        rw [Bool.eq_iff_iff, beq_iff_eq, decide_eq_true_iff]
        exact ⟨fun h => by rw [h]; rfl, fun h => UInt8.toNat_inj.1 (by rw [h]; rfl)⟩
      unfold letterB digitB at hst
      rw [h95] at hst
      have hcc := s[j].toNat_lt
      generalize s[j].toNat = c at *
      have HX := Lib.hid hx
      clear h95 hx
      have hcs : (0 ≤ c ∧ c ≤ 47) ∨ (48 ≤ c ∧ c ≤ 57) ∨ (58 ≤ c ∧ c ≤ 64) ∨ (65 ≤ c ∧ c ≤ 90) ∨ (91 ≤ c ∧ c ≤ 94) ∨ (95 ≤ c ∧ c ≤ 95) ∨ (96 ≤ c ∧ c ≤ 96) ∨ (97 ≤ c ∧ c ≤ 122) ∨ (123 ≤ c ∧ c ≤ 255) := by omega
      rcases hcs with hc | hc | hc | hc | hc | hc | hc | hc | hc
      · have e1 : decide ((97 : Int) ≤ (c : Int)) = false := by rw [decide_eq_false_iff_not]; omega
        have e2 : decide ((c : Int) ≤ (122 : Int)) = true := by rw [decide_eq_true_iff]; omega
        have e3 : decide ((65 : Int) ≤ (c : Int)) = false := by rw [decide_eq_false_iff_not]; omega
        have e4 : decide ((c : Int) ≤ (90 : Int)) = true := by rw [decide_eq_true_iff]; omega
        have e5 : ((c : Int) == 95) = false := by rw [beq_eq_false_iff_ne]; omega
        have e6 : decide ((c : Int) < 48) = true := by rw [decide_eq_true_iff]; omega
        have e7 : decide ((57 : Int) < (c : Int)) = false := by rw [decide_eq_false_iff_not]; omega
        by_cases j0 : 0 < j
        · have j1 : ((j : Int) == 0) = false := by rw [beq_eq_false_iff_ne]; omega
          have hst : plainB (s.take (j + 1)) = false := by rw [hst]; simp; omega
          have hPf : P = false := by
            cases hp : P with
            | false => rfl
            | true =>
              have := plainB_take (HP.out.trans hp) (j := j + 1) (by omega)
              rw [hst] at this; cases this
          have HN := Lib.hid hPf
          clear hPf hst HQ hc hcc
          go_wp2_with (refine wpList_run rfl (exec_index rfl rfl rfl (HX.out _)) ?_)
          go_ret
          exact ⟨ret_bool HN.out.symm, rfl⟩
        · have j1 : ((j : Int) == 0) = true := by rw [beq_iff_eq]; omega
          have hst : plainB (s.take (j + 1)) = false := by rw [hst]; simp; omega
          have hPf : P = false := by
            cases hp : P with
            | false => rfl
            | true =>
              have := plainB_take (HP.out.trans hp) (j := j + 1) (by omega)
              rw [hst] at this; cases this
          have HN := Lib.hid hPf
          clear hPf hst HQ hc hcc
          go_wp2_with (refine wpList_run rfl (exec_index rfl rfl rfl (HX.out _)) ?_)
          go_ret
          exact ⟨ret_bool HN.out.symm, rfl⟩
      · have e1 : decide ((97 : Int) ≤ (c : Int)) = false := by rw [decide_eq_false_iff_not]; omega
        have e2 : decide ((c : Int) ≤ (122 : Int)) = true := by rw [decide_eq_true_iff]; omega
        have e3 : decide ((65 : Int) ≤ (c : Int)) = false := by rw [decide_eq_false_iff_not]; omega
        have e4 : decide ((c : Int) ≤ (90 : Int)) = true := by rw [decide_eq_true_iff]; omega
        have e5 : ((c : Int) == 95) = false := by rw [beq_eq_false_iff_ne]; omega
        have e6 : decide ((c : Int) < 48) = false := by rw [decide_eq_false_iff_not]; omega
        have e7 : decide ((57 : Int) < (c : Int)) = false := by rw [decide_eq_false_iff_not]; omega
        by_cases j0 : 0 < j
        · have j1 : ((j : Int) == 0) = false := by rw [beq_eq_false_iff_ne]; omega
          have hst : plainB (s.take (j + 1)) = true := by rw [hst]; simp; omega
          have HS := Lib.hid hst
          clear hst HQ hc hcc
          go_wp2_with (refine wpList_run rfl (exec_index rfl rfl rfl (HX.out _)) ?_)
          go_roundw
          case rel => exact ⟨j + 1, hlt1, by go_num, Lib.hid (.inr HS.out), trivial⟩
          case measure => simp [intOf]; omega
        · have j1 : ((j : Int) == 0) = true := by rw [beq_iff_eq]; omega
          have hst : plainB (s.take (j + 1)) = false := by rw [hst]; simp; omega
          have hPf : P = false := by
            cases hp : P with
            | false => rfl
            | true =>
              have := plainB_take (HP.out.trans hp) (j := j + 1) (by omega)
              rw [hst] at this; cases this
          have HN := Lib.hid hPf
          clear hPf hst HQ hc hcc
          go_wp2_with (refine wpList_run rfl (exec_index rfl rfl rfl (HX.out _)) ?_)
          go_ret
          exact ⟨ret_bool HN.out.symm, rfl⟩
      · have e1 : decide ((97 : Int) ≤ (c : Int)) = false := by rw [decide_eq_false_iff_not]; omega
        have e2 : decide ((c : Int) ≤ (122 : Int)) = true := by rw [decide_eq_true_iff]; omega
        have e3 : decide ((65 : Int) ≤ (c : Int)) = false := by rw [decide_eq_false_iff_not]; omega
        have e4 : decide ((c : Int) ≤ (90 : Int)) = true := by rw [decide_eq_true_iff]; omega
        have e5 : ((c : Int) == 95) = false := by rw [beq_eq_false_iff_ne]; omega
        have e6 : decide ((c : Int) < 48) = false := by rw [decide_eq_false_iff_not]; omega
        have e7 : decide ((57 : Int) < (c : Int)) = true := by rw [decide_eq_true_iff]; omega
        by_cases j0 : 0 < j
        · have j1 : ((j : Int) == 0) = false := by rw [beq_eq_false_iff_ne]; omega
          have hst : plainB (s.take (j + 1)) = false := by rw [hst]; simp; omega
          have hPf : P = false := by
            cases hp : P with
            | false => rfl
            | true =>
              have := plainB_take (HP.out.trans hp) (j := j + 1) (by omega)
              rw [hst] at this; cases this
          have HN := Lib.hid hPf
          clear hPf hst HQ hc hcc
          go_wp2_with (refine wpList_run rfl (exec_index rfl rfl rfl (HX.out _)) ?_)
          go_ret
          exact ⟨ret_bool HN.out.symm, rfl⟩
        · have j1 : ((j : Int) == 0) = true := by rw [beq_iff_eq]; omega
          have hst : plainB (s.take (j + 1)) = false := by rw [hst]; simp; omega
          have hPf : P = false := by
            cases hp : P with
            | false => rfl
            | true =>
              have := plainB_take (HP.out.trans hp) (j := j + 1) (by omega)
              rw [hst] at this; cases this
          have HN := Lib.hid hPf
          clear hPf hst HQ hc hcc
          go_wp2_with (refine wpList_run rfl (exec_index rfl rfl rfl (HX.out _)) ?_)
          go_ret
          exact ⟨ret_bool HN.out.symm, rfl⟩
      · have e1 : decide ((97 : Int) ≤ (c : Int)) = false := by rw [decide_eq_false_iff_not]; omega
        have e2 : decide ((c : Int) ≤ (122 : Int)) = true := by rw [decide_eq_true_iff]; omega
        have e3 : decide ((65 : Int) ≤ (c : Int)) = true := by rw [decide_eq_true_iff]; omega
        have e4 : decide ((c : Int) ≤ (90 : Int)) = true := by rw [decide_eq_true_iff]; omega
        have e5 : ((c : Int) == 95) = false := by rw [beq_eq_false_iff_ne]; omega
        have e6 : decide ((c : Int) < 48) = false := by rw [decide_eq_false_iff_not]; omega
        have e7 : decide ((57 : Int) < (c : Int)) = true := by rw [decide_eq_true_iff]; omega
        have hst : plainB (s.take (j + 1)) = true := by rw [hst]; simp; omega
        have HS := Lib.hid hst
        clear hst HQ hc hcc
        go_wp2_with (refine wpList_run rfl (exec_index rfl rfl rfl (HX.out _)) ?_)
        go_roundw
        case rel => exact ⟨j + 1, hlt1, by go_num, Lib.hid (.inr HS.out), trivial⟩
        case measure => simp [intOf]; omega
      · have e1 : decide ((97 : Int) ≤ (c : Int)) = false := by rw [decide_eq_false_iff_not]; omega
        have e2 : decide ((c : Int) ≤ (122 : Int)) = true := by rw [decide_eq_true_iff]; omega
        have e3 : decide ((65 : Int) ≤ (c : Int)) = true := by rw [decide_eq_true_iff]; omega
        have e4 : decide ((c : Int) ≤ (90 : Int)) = false := by rw [decide_eq_false_iff_not]; omega
        have e5 : ((c : Int) == 95) = false := by rw [beq_eq_false_iff_ne]; omega
        have e6 : decide ((c : Int) < 48) = false := by rw [decide_eq_false_iff_not]; omega
        have e7 : decide ((57 : Int) < (c : Int)) = true := by rw [decide_eq_true_iff]; omega
        by_cases j0 : 0 < j
        · have j1 : ((j : Int) == 0) = false := by rw [beq_eq_false_iff_ne]; omega
          have hst : plainB (s.take (j + 1)) = false := by rw [hst]; simp; omega
          have hPf : P = false := by
            cases hp : P with
            | false => rfl
            | true =>
              have := plainB_take (HP.out.trans hp) (j := j + 1) (by omega)
              rw [hst] at this; cases this
          have HN := Lib.hid hPf
          clear hPf hst HQ hc hcc
          go_wp2_with (refine wpList_run rfl (exec_index rfl rfl rfl (HX.out _)) ?_)
          go_ret
          exact ⟨ret_bool HN.out.symm, rfl⟩
        · have j1 : ((j : Int) == 0) = true := by rw [beq_iff_eq]; omega
          have hst : plainB (s.take (j + 1)) = false := by rw [hst]; simp; omega
          have hPf : P = false := by
            cases hp : P with
            | false => rfl
            | true =>
              have := plainB_take (HP.out.trans hp) (j := j + 1) (by omega)
              rw [hst] at this; cases this
          have HN := Lib.hid hPf
          clear hPf hst HQ hc hcc
          go_wp2_with (refine wpList_run rfl (exec_index rfl rfl rfl (HX.out _)) ?_)
          go_ret
          exact ⟨ret_bool HN.out.symm, rfl⟩
      · have e1 : decide ((97 : Int) ≤ (c : Int)) = false := by rw [decide_eq_false_iff_not]; omega
        have e2 : decide ((c : Int) ≤ (122 : Int)) = true := by rw [decide_eq_true_iff]; omega
        have e3 : decide ((65 : Int) ≤ (c : Int)) = true := by rw [decide_eq_true_iff]; omega
        have e4 : decide ((c : Int) ≤ (90 : Int)) = false := by rw [decide_eq_false_iff_not]; omega
        have e5 : ((c : Int) == 95) = true := by rw [beq_iff_eq]; omega
        have e6 : decide ((c : Int) < 48) = false := by rw [decide_eq_false_iff_not]; omega
        have e7 : decide ((57 : Int) < (c : Int)) = true := by rw [decide_eq_true_iff]; omega
        have hst : plainB (s.take (j + 1)) = true := by rw [hst]; simp; omega
        have HS := Lib.hid hst
        clear hst HQ hc hcc
        go_wp2_with (refine wpList_run rfl (exec_index rfl rfl rfl (HX.out _)) ?_)
        go_roundw
        case rel => exact ⟨j + 1, hlt1, by go_num, Lib.hid (.inr HS.out), trivial⟩
        case measure => simp [intOf]; omega
      · have e1 : decide ((97 : Int) ≤ (c : Int)) = false := by rw [decide_eq_false_iff_not]; omega
        have e2 : decide ((c : Int) ≤ (122 : Int)) = true := by rw [decide_eq_true_iff]; omega
        have e3 : decide ((65 : Int) ≤ (c : Int)) = true := by rw [decide_eq_true_iff]; omega
        have e4 : decide ((c : Int) ≤ (90 : Int)) = false := by rw [decide_eq_false_iff_not]; omega
        have e5 : ((c : Int) == 95) = false := by rw [beq_eq_false_iff_ne]; omega
        have e6 : decide ((c : Int) < 48) = false := by rw [decide_eq_false_iff_not]; omega
        have e7 : decide ((57 : Int) < (c : Int)) = true := by rw [decide_eq_true_iff]; omega
        by_cases j0 : 0 < j
        · have j1 : ((j : Int) == 0) = false := by rw [beq_eq_false_iff_ne]; omega
          have hst : plainB (s.take (j + 1)) = false := by rw [hst]; simp; omega
          have hPf : P = false := by
            cases hp : P with
            | false => rfl
            | true =>
              have := plainB_take (HP.out.trans hp) (j := j + 1) (by omega)
              rw [hst] at this; cases this
          have HN := Lib.hid hPf
          clear hPf hst HQ hc hcc
          go_wp2_with (refine wpList_run rfl (exec_index rfl rfl rfl (HX.out _)) ?_)
          go_ret
          exact ⟨ret_bool HN.out.symm, rfl⟩
        · have j1 : ((j : Int) == 0) = true := by rw [beq_iff_eq]; omega
          have hst : plainB (s.take (j + 1)) = false := by rw [hst]; simp; omega
          have hPf : P = false := by
            cases hp : P with
            | false => rfl
            | true =>
              have := plainB_take (HP.out.trans hp) (j := j + 1) (by omega)
              rw [hst] at this; cases this
          have HN := Lib.hid hPf
          clear hPf hst HQ hc hcc
          go_wp2_with (refine wpList_run rfl (exec_index rfl rfl rfl (HX.out _)) ?_)
          go_ret
          exact ⟨ret_bool HN.out.symm, rfl⟩
      · have e1 : decide ((97 : Int) ≤ (c : Int)) = true := by rw [decide_eq_true_iff]; omega
        have e2 : decide ((c : Int) ≤ (122 : Int)) = true := by rw [decide_eq_true_iff]; omega
        have e3 : decide ((65 : Int) ≤ (c : Int)) = true := by rw [decide_eq_true_iff]; omega
        have e4 : decide ((c : Int) ≤ (90 : Int)) = false := by rw [decide_eq_false_iff_not]; omega
        have e5 : ((c : Int) == 95) = false := by rw [beq_eq_false_iff_ne]; omega
        have e6 : decide ((c : Int) < 48) = false := by rw [decide_eq_false_iff_not]; omega
        have e7 : decide ((57 : Int) < (c : Int)) = true := by rw [decide_eq_true_iff]; omega
        have hst : plainB (s.take (j + 1)) = true := by rw [hst]; simp; omega
        have HS := Lib.hid hst
        clear hst HQ hc hcc
        go_wp2_with (refine wpList_run rfl (exec_index rfl rfl rfl (HX.out _)) ?_)
        go_roundw
        case rel => exact ⟨j + 1, hlt1, by go_num, Lib.hid (.inr HS.out), trivial⟩
        case measure => simp [intOf]; omega
      · have e1 : decide ((97 : Int) ≤ (c : Int)) = true := by rw [decide_eq_true_iff]; omega
        have e2 : decide ((c : Int) ≤ (122 : Int)) = false := by rw [decide_eq_false_iff_not]; omega
        have e3 : decide ((65 : Int) ≤ (c : Int)) = true := by rw [decide_eq_true_iff]; omega
        have e4 : decide ((c : Int) ≤ (90 : Int)) = false := by rw [decide_eq_false_iff_not]; omega
        have e5 : ((c : Int) == 95) = false := by rw [beq_eq_false_iff_ne]; omega
        have e6 : decide ((c : Int) < 48) = false := by rw [decide_eq_false_iff_not]; omega
        have e7 : decide ((57 : Int) < (c : Int)) = true := by rw [decide_eq_true_iff]; omega
        by_cases j0 : 0 < j
        · have j1 : ((j : Int) == 0) = false := by rw [beq_eq_false_iff_ne]; omega
          have hst : plainB (s.take (j + 1)) = false := by rw [hst]; simp; omega
          have hPf : P = false := by
            cases hp : P with
            | false => rfl
            | true =>
              have := plainB_take (HP.out.trans hp) (j := j + 1) (by omega)
              rw [hst] at this; cases this
          have HN := Lib.hid hPf
          clear hPf hst HQ hc hcc
          go_wp2_with (refine wpList_run rfl (exec_index rfl rfl rfl (HX.out _)) ?_)
          go_ret
          exact ⟨ret_bool HN.out.symm, rfl⟩
        · have j1 : ((j : Int) == 0) = true := by rw [beq_iff_eq]; omega
          have hst : plainB (s.take (j + 1)) = false := by rw [hst]; simp; omega
          have hPf : P = false := by
            cases hp : P with
            | false => rfl
            | true =>
              have := plainB_take (HP.out.trans hp) (j := j + 1) (by omega)
              rw [hst] at this; cases this
          have HN := Lib.hid hPf
          clear hPf hst HQ hc hcc
          go_wp2_with (refine wpList_run rfl (exec_index rfl rfl rfl (HX.out _)) ?_)
          go_ret
          exact ⟨ret_bool HN.out.symm, rfl⟩
    · obtain rfl : j = s.length := by omega
      have hfin : decide (s ≠ []) = P := by
        have h := HQ.out
        rw [List.take_length] at h
        rw [← HP.out]
        cases s with
        | nil => rfl
        | cons c r =>
          rcases h with h | h
          · simp at h
          · rw [h]; simp
      have HF := Lib.hid hfin
      clear hfin HQ
      go_wp2_with (refine wpList_run (v := .bool (decide (s ≠ []))) rfl (exec_bins rfl rfl rfl (run_neStr _ _ s [] _)) ?_)
      go_ret
      exact ⟨ret_bool (by rw [← HF.out]; simp), rfl⟩
/-! ### Quote -/
theorem hex_quo {c : Nat} (hc : c < 256) (w : World) : (binOp .quo 5 (.int .u8 (c : Int)) (.int .u8 16)).run Tryz.prog w = .ok (.int .u8 ((c / 16 : Nat) : Int)) w := by
  have h : (c : Int).tdiv 16 = ((c / 16 : Nat) : Int) := by rw [Int.tdiv_eq_ediv_of_nonneg (by omega)]; omega
  have h2 : IntKind.u8.wrap ((c : Int) / 16) = (c : Int) / 16 := by simp [IntKind.wrap, IntKind.signed, IntKind.bits]; omega
  simp [go_sem, h, h2]
theorem hex_rem (c : Nat) (w : World) : (binOp .rem 5 (.int .u8 (c : Int)) (.int .u8 16)).run Tryz.prog w = .ok (.int .u8 ((c % 16 : Nat) : Int)) w := by
  have h : (c : Int).tmod 16 = ((c % 16 : Nat) : Int) := by rw [Int.tmod_eq_emod_of_nonneg (by omega)]; omega
  simp [go_sem, h]
theorem hex_index {h : Nat} (hh : h < 16) (w : World) : (Instr.index 9 (.string (strB [48, 49, 50, 51, 52, 53, 54, 55, 56, 57, 97, 98, 99, 100, 101, 102])) (.int .u8 (h : Int))).run Tryz.prog w = .ok (.int .u8 ((hexB h).toNat : Int)) w := by
  rcases lt16 hh with rfl | rfl | rfl | rfl | rfl | rfl | rfl | rfl | rfl | rfl | rfl | rfl | rfl | rfl | rfl | rfl <;> simp [go_sem, strB, hexB] <;> rfl
theorem exec_six {P : Program} {a : Act} {w w' : World} {o : Oper} {v : Value} {t : TypeId} {x y : Operand} {c0 c1 c2 c3 u4 u5 : Value} (ho : o.op = .buildSlice t 6 #[(0, .const c0), (1, .const c1), (2, .const c2), (3, .const c3), (4, x), (5, y)]) (hx : a.eval x = u4) (hy : a.eval y = u5)
    (hr : (Instr.buildSlice t 6 #[(0, c0), (1, c1), (2, c2), (3, c3), (4, u4), (5, u5)]).run P w = .ok v w') : (execOp a.eval o).run P w = .ok (.value v) w' := by
  have e : ∀ v : Value, a.eval (.const v) = v := fun _ => rfl
  exact exec_buildSlice ho (by simp [hx, hy, e]) hr
theorem run_six (x0 x1 x2 x3 x4 x5 : Int) (W : World) : (Instr.buildSlice 68 6 #[(0, .int .u8 x0), (1, .int .u8 x1), (2, .int .u8 x2), (3, .int .u8 x3), (4, .int .u8 x4), (5, .int .u8 x5)]).run Tryz.prog W =
    .ok (.slice (some ⟨W.heap.size, 0, none⟩) 6 6) (W.alloc (.cells #[.int .u8 x0, .int .u8 x1, .int .u8 x2, .int .u8 x3, .int .u8 x4, .int .u8 x5] 5)) := by simp [go_sem]
set_option maxRecDepth 100000 in
set_option maxHeartbeats 8000000 in
theorem quoteR_any (s : List UInt8) (hs : s.length ≤ 1099511627776) (w : World) : Calls Tryz.prog 31 #[.string (strB s)] w fun e w' => e = .returned (.string (strB (quoteB s))) ∧ Below w.heap.size w w' := by
  have z1 : (s.length : Int) ≤ 140737488355328 := by omega
  have hsz : (strB s).size = s.length := rfl
  have HN := Lib.hid (show quoteB s = 39 :: (s.flatMap escB ++ [39]) from rfl)
  have HB0 := Lib.hid (Buf.start (Below.refl w.heap.size w) (m := [39]) (cs := #[.int .u8 39]) rfl (by simp))
  generalize quoteB s = R at *
  go_enter Tryz.func31, Tryz.ntmps31
  go_wp2
  go_loopw [4, 5] (fun o i W => ∃ (j : Nat) (ov : Value), j ≤ s.length ∧ i = .int .i64 (j : Int) ∧ ov = o ∧ Hid (Buf w W ov (39 :: (s.take j).flatMap escB))) (fun _ i _ => s.length - (intOf i).toNat)
  case atStart => exact ⟨0, _, Nat.zero_le _, rfl, rfl, HB0⟩
  case round =>
    clear HB0
    obtain ⟨j, ov, hj, rfl, rfl, HJ⟩ := hrel
    by_cases hlt : j < s.length
    · have hlt1 : j + 1 ≤ s.length := hlt
      have hx := fun W => index_str s j hlt W
      have hst := quote_step hlt
      have hln := quote_len s j
      have hc256 : s[j].toNat < 256 := s[j].toNat_lt
      generalize 39 :: (s.take j).flatMap escB = L at *
      generalize s[j] = c at *
      have HS := Lib.hid (And.intro hst (show L.length ≤ 6600000000000 by omega))
      clear hst hln
      by_cases h5 : c = 39 ∨ c = 92 ∨ c = 10 ∨ c = 9 ∨ c = 13
      · rcases h5 with rfl | rfl | rfl | rfl | rfl
        · have HX := Lib.hid (show ∀ W : World, (Instr.index 9 (.string (strB s)) (.int .i64 (j : Int))).run Tryz.prog W = .ok (.int .u8 39) W from hx)
          obtain ⟨v2, W2, ha, hB⟩ := (HJ.out.below (below_new (.cells #[.int .u8 92, .int .u8 39] 5))).step (m := [92, 39]) (heap_alloc_new wr _) rfl (by have := HS.out.2; simp; omega) 68
          have Ha := Lib.hid ha
          have HB := Lib.hid hB
          clear ha hB HJ hx hc256
          go_wp2_with (first
            | (refine wpList_run rfl (exec_index rfl rfl rfl (HX.out _)) ?_)
            | (refine wpList_append rfl rfl rfl rfl Ha.out ?_))
          go_roundw
          case rel => exact ⟨j + 1, _, hlt1, by go_num, rfl, Lib.hid (by rw [HS.out.1]; exact HB.out)⟩
          case measure => simp [intOf]; omega
        · have HX := Lib.hid (show ∀ W : World, (Instr.index 9 (.string (strB s)) (.int .i64 (j : Int))).run Tryz.prog W = .ok (.int .u8 92) W from hx)
          obtain ⟨v2, W2, ha, hB⟩ := (HJ.out.below (below_new (.cells #[.int .u8 92, .int .u8 92] 5))).step (m := [92, 92]) (heap_alloc_new wr _) rfl (by have := HS.out.2; simp; omega) 68
          have Ha := Lib.hid ha
          have HB := Lib.hid hB
          clear ha hB HJ hx hc256
          go_wp2_with (first
            | (refine wpList_run rfl (exec_index rfl rfl rfl (HX.out _)) ?_)
            | (refine wpList_append rfl rfl rfl rfl Ha.out ?_))
          go_roundw
          case rel => exact ⟨j + 1, _, hlt1, by go_num, rfl, Lib.hid (by rw [HS.out.1]; exact HB.out)⟩
          case measure => simp [intOf]; omega
        · have HX := Lib.hid (show ∀ W : World, (Instr.index 9 (.string (strB s)) (.int .i64 (j : Int))).run Tryz.prog W = .ok (.int .u8 10) W from hx)
          obtain ⟨v2, W2, ha, hB⟩ := (HJ.out.below (below_new (.cells #[.int .u8 92, .int .u8 110] 5))).step (m := [92, 110]) (heap_alloc_new wr _) rfl (by have := HS.out.2; simp; omega) 68
          have Ha := Lib.hid ha
          have HB := Lib.hid hB
          clear ha hB HJ hx hc256
          go_wp2_with (first
            | (refine wpList_run rfl (exec_index rfl rfl rfl (HX.out _)) ?_)
            | (refine wpList_append rfl rfl rfl rfl Ha.out ?_))
          go_roundw
          case rel => exact ⟨j + 1, _, hlt1, by go_num, rfl, Lib.hid (by rw [HS.out.1]; exact HB.out)⟩
          case measure => simp [intOf]; omega
        · have HX := Lib.hid (show ∀ W : World, (Instr.index 9 (.string (strB s)) (.int .i64 (j : Int))).run Tryz.prog W = .ok (.int .u8 9) W from hx)
          obtain ⟨v2, W2, ha, hB⟩ := (HJ.out.below (below_new (.cells #[.int .u8 92, .int .u8 116] 5))).step (m := [92, 116]) (heap_alloc_new wr _) rfl (by have := HS.out.2; simp; omega) 68
          have Ha := Lib.hid ha
          have HB := Lib.hid hB
          clear ha hB HJ hx hc256
          go_wp2_with (first
            | (refine wpList_run rfl (exec_index rfl rfl rfl (HX.out _)) ?_)
            | (refine wpList_append rfl rfl rfl rfl Ha.out ?_))
          go_roundw
          case rel => exact ⟨j + 1, _, hlt1, by go_num, rfl, Lib.hid (by rw [HS.out.1]; exact HB.out)⟩
          case measure => simp [intOf]; omega
        · have HX := Lib.hid (show ∀ W : World, (Instr.index 9 (.string (strB s)) (.int .i64 (j : Int))).run Tryz.prog W = .ok (.int .u8 13) W from hx)
          obtain ⟨v2, W2, ha, hB⟩ := (HJ.out.below (below_new (.cells #[.int .u8 92, .int .u8 114] 5))).step (m := [92, 114]) (heap_alloc_new wr _) rfl (by have := HS.out.2; simp; omega) 68
          have Ha := Lib.hid ha
          have HB := Lib.hid hB
          clear ha hB HJ hx hc256
          go_wp2_with (first
            | (refine wpList_run rfl (exec_index rfl rfl rfl (HX.out _)) ?_)
            | (refine wpList_append rfl rfl rfl rfl Ha.out ?_))
          go_roundw
          case rel => exact ⟨j + 1, _, hlt1, by go_num, rfl, Lib.hid (by rw [HS.out.1]; exact HB.out)⟩
          case measure => simp [intOf]; omega
      · have hesc : escB c = if c.toNat < 32 ∨ c.toNat = 127 then [92, 117, 48, 48, hexB (c.toNat / 16), hexB (c.toNat % 16)] else [c] := by
          unfold escB
          rw [if_neg (fun e => h5 (.inl e)), if_neg (fun e => h5 (.inr (.inl e))), if_neg (fun e => h5 (.inr (.inr (.inl e)))), if_neg (fun e => h5 (.inr (.inr (.inr (.inl e))))), if_neg (fun e => h5 (.inr (.inr (.inr (.inr e)))))]
        have g1 : ((c.toNat : Int) == 39) = false := by rw [beq_eq_false_iff_ne]; intro e; exact h5 (.inl (UInt8.toNat_inj.1 (show c.toNat = 39 by omega)))
        have g2 : ((c.toNat : Int) == 92) = false := by rw [beq_eq_false_iff_ne]; intro e; exact h5 (.inr (.inl (UInt8.toNat_inj.1 (show c.toNat = 92 by omega))))
        have g3 : ((c.toNat : Int) == 10) = false := by rw [beq_eq_false_iff_ne]; intro e; exact h5 (.inr (.inr (.inl (UInt8.toNat_inj.1 (show c.toNat = 10 by omega)))))
        have g4 : ((c.toNat : Int) == 9) = false := by rw [beq_eq_false_iff_ne]; intro e; exact h5 (.inr (.inr (.inr (.inl (UInt8.toNat_inj.1 (show c.toNat = 9 by omega))))))
        have g5 : ((c.toNat : Int) == 13) = false := by rw [beq_eq_false_iff_ne]; intro e; exact h5 (.inr (.inr (.inr (.inr (UInt8.toNat_inj.1 (show c.toNat = 13 by omega))))))
        have HX := Lib.hid hx
        clear h5 hx
        by_cases hd : c.toNat < 32 ∨ c.toNat = 127
        · rw [if_pos hd] at hesc
          have HE := Lib.hid hesc
          obtain ⟨n, hn⟩ : ∃ n, c.toNat = n := ⟨_, rfl⟩
          rw [hn] at HX hc256 hd HE g1 g2 g3 g4 g5
          clear hesc hn
          by_cases hd1 : n < 32
          · have d1 : decide ((n : Int) < 32) = true := by rw [decide_eq_true_iff]; omega
            clear hd hd1
            · go_wp2_with (refine wpList_run rfl (exec_index rfl rfl rfl (HX.out _)) ?_)
              have hJ := HJ.out.below (show Below wr.heap.size wr wr.drew from (Below.refl _ _).drew)
              have hU := hJ.b
              refine plain_region_draws (fun W => Below w.heap.size w W) (by kernel_rfl) hU (fun hU => ?_)
              generalize wr.drew = W0 at *
              have f1 := hex_quo (c := n) hc256
              have f2 := hex_index (h := n / 16) (by omega)
              have f4 := hex_rem n
              have f5 := hex_index (h := n % 16) (by omega)
              refine take 0 57 (v := ov) rfl rfl (by kernel_rfl) (by kernel_rfl) (by kernel_rfl) rfl (fun W hW => exec_move rfl rfl) (by assumption) ?_
              simp only [Act.put, List.setIfInBounds_toArray, List.set_cons_zero, List.set_cons_succ]
              refine take 1 58 (v := .string (strB [48, 49, 50, 51, 52, 53, 54, 55, 56, 57, 97, 98, 99, 100, 101, 102])) rfl rfl (by kernel_rfl) (by kernel_rfl) (by kernel_rfl) rfl (fun W hW => exec_move rfl rfl) (by assumption) ?_
              simp only [Act.put, List.setIfInBounds_toArray, List.set_cons_zero, List.set_cons_succ]
              refine take 2 59 (v := .int .u8 (n : Int)) rfl rfl (by kernel_rfl) (by kernel_rfl) (by kernel_rfl) rfl (fun W hW => exec_move rfl rfl) (by assumption) ?_
              simp only [Act.put, List.setIfInBounds_toArray, List.set_cons_zero, List.set_cons_succ]
              refine take 3 60 (v := .int .u8 ((n / 16 : Nat) : Int)) rfl rfl (by kernel_rfl) (by kernel_rfl) (by kernel_rfl) rfl (fun W hW => exec_bin rfl rfl rfl rfl (f1 W)) (by assumption) ?_
              simp only [Act.put, List.setIfInBounds_toArray, List.set_cons_zero, List.set_cons_succ]
              refine take 4 61 (v := .int .u8 ((hexB (n / 16)).toNat : Int)) rfl rfl (by kernel_rfl) (by kernel_rfl) (by kernel_rfl) rfl (fun W hW => exec_index rfl rfl rfl (f2 W)) (by assumption) ?_
              simp only [Act.put, List.setIfInBounds_toArray, List.set_cons_zero, List.set_cons_succ]
              refine take 5 62 (v := .string (strB [48, 49, 50, 51, 52, 53, 54, 55, 56, 57, 97, 98, 99, 100, 101, 102])) rfl rfl (by kernel_rfl) (by kernel_rfl) (by kernel_rfl) rfl (fun W hW => exec_move rfl rfl) (by assumption) ?_
              simp only [Act.put, List.setIfInBounds_toArray, List.set_cons_zero, List.set_cons_succ]
              refine take 6 63 (v := .int .u8 (n : Int)) rfl rfl (by kernel_rfl) (by kernel_rfl) (by kernel_rfl) rfl (fun W hW => exec_move rfl rfl) (by assumption) ?_
              simp only [Act.put, List.setIfInBounds_toArray, List.set_cons_zero, List.set_cons_succ]
              refine take 7 64 (v := .int .u8 ((n % 16 : Nat) : Int)) rfl rfl (by kernel_rfl) (by kernel_rfl) (by kernel_rfl) rfl (fun W hW => exec_bin rfl rfl rfl rfl (f4 W)) (by assumption) ?_
              simp only [Act.put, List.setIfInBounds_toArray, List.set_cons_zero, List.set_cons_succ]
              refine take 8 65 (v := .int .u8 ((hexB (n % 16)).toNat : Int)) rfl rfl (by kernel_rfl) (by kernel_rfl) (by kernel_rfl) rfl (fun W hW => exec_index rfl rfl rfl (f5 W)) (by assumption) ?_
              simp only [Act.put, List.setIfInBounds_toArray, List.set_cons_zero, List.set_cons_succ]
              obtain ⟨v2, W2, ha, hB⟩ := (hJ.below (below_new (.cells #[.int .u8 92, .int .u8 117, .int .u8 48, .int .u8 48, .int .u8 ((hexB (n / 16)).toNat : Int), .int .u8 ((hexB (n % 16)).toNat : Int)] 5))).step (m := [92, 117, 48, 48, hexB (n / 16), hexB (n % 16)]) (heap_alloc_new W0 _) rfl (by have := HS.out.2; simp; omega) 68
              refine onlyRun 9 66 (v := .slice (some ⟨W0.heap.size, 0, none⟩) 6 6) rfl rfl (by kernel_rfl) rfl (exec_six rfl rfl rfl (run_six _ _ _ _ _ _ W0)) (.inr (below_trans hU (below_new _))) ?_
              simp only [Act.put, List.setIfInBounds_toArray, List.set_cons_zero, List.set_cons_succ]
              have hU := hB.b
              refine onlyRun 10 67 (v := v2) rfl rfl (by kernel_rfl) rfl (exec_append rfl rfl rfl ha) (.inr hB.b) ?_
              simp only [Act.put, List.setIfInBounds_toArray, List.set_cons_zero, List.set_cons_succ]
              refine take 11 4 (v := v2) rfl rfl (by kernel_rfl) (by kernel_rfl) (by kernel_rfl) rfl (fun W hW => exec_assign rfl rfl) (by assumption) ?_
              simp only [Act.put, List.setIfInBounds_toArray, List.set_cons_zero, List.set_cons_succ]
              refine done (by kernel_rfl) ?_ _
              have HB := Lib.hid hB
              clear hB ha hJ hU f1 f2 f4 f5 HJ
              go_wp2
              go_roundw
              case rel => exact ⟨j + 1, _, hlt1, by go_num, rfl, Lib.hid (by rw [HS.out.1, HE.out]; exact HB.out)⟩
              case measure => simp [intOf]; omega
          · have d1 : decide ((n : Int) < 32) = false := by rw [decide_eq_false_iff_not]; omega
            have d2 : ((n : Int) == 127) = true := by rw [beq_iff_eq]; omega
            clear hd hd1
            · go_wp2_with (refine wpList_run rfl (exec_index rfl rfl rfl (HX.out _)) ?_)
              have hJ := HJ.out.below (show Below wr.heap.size wr wr.drew from (Below.refl _ _).drew)
              have hU := hJ.b
              refine plain_region_draws (fun W => Below w.heap.size w W) (by kernel_rfl) hU (fun hU => ?_)
              generalize wr.drew = W0 at *
              have f1 := hex_quo (c := n) hc256
              have f2 := hex_index (h := n / 16) (by omega)
              have f4 := hex_rem n
              have f5 := hex_index (h := n % 16) (by omega)
              refine take 0 57 (v := ov) rfl rfl (by kernel_rfl) (by kernel_rfl) (by kernel_rfl) rfl (fun W hW => exec_move rfl rfl) (by assumption) ?_
              simp only [Act.put, List.setIfInBounds_toArray, List.set_cons_zero, List.set_cons_succ]
              refine take 1 58 (v := .string (strB [48, 49, 50, 51, 52, 53, 54, 55, 56, 57, 97, 98, 99, 100, 101, 102])) rfl rfl (by kernel_rfl) (by kernel_rfl) (by kernel_rfl) rfl (fun W hW => exec_move rfl rfl) (by assumption) ?_
              simp only [Act.put, List.setIfInBounds_toArray, List.set_cons_zero, List.set_cons_succ]
              refine take 2 59 (v := .int .u8 (n : Int)) rfl rfl (by kernel_rfl) (by kernel_rfl) (by kernel_rfl) rfl (fun W hW => exec_move rfl rfl) (by assumption) ?_
              simp only [Act.put, List.setIfInBounds_toArray, List.set_cons_zero, List.set_cons_succ]
              refine take 3 60 (v := .int .u8 ((n / 16 : Nat) : Int)) rfl rfl (by kernel_rfl) (by kernel_rfl) (by kernel_rfl) rfl (fun W hW => exec_bin rfl rfl rfl rfl (f1 W)) (by assumption) ?_
              simp only [Act.put, List.setIfInBounds_toArray, List.set_cons_zero, List.set_cons_succ]
              refine take 4 61 (v := .int .u8 ((hexB (n / 16)).toNat : Int)) rfl rfl (by kernel_rfl) (by kernel_rfl) (by kernel_rfl) rfl (fun W hW => exec_index rfl rfl rfl (f2 W)) (by assumption) ?_
              simp only [Act.put, List.setIfInBounds_toArray, List.set_cons_zero, List.set_cons_succ]
              refine take 5 62 (v := .string (strB [48, 49, 50, 51, 52, 53, 54, 55, 56, 57, 97, 98, 99, 100, 101, 102])) rfl rfl (by kernel_rfl) (by kernel_rfl) (by kernel_rfl) rfl (fun W hW => exec_move rfl rfl) (by assumption) ?_
              simp only [Act.put, List.setIfInBounds_toArray, List.set_cons_zero, List.set_cons_succ]
              refine take 6 63 (v := .int .u8 (n : Int)) rfl rfl (by kernel_rfl) (by kernel_rfl) (by kernel_rfl) rfl (fun W hW => exec_move rfl rfl) (by assumption) ?_
              simp only [Act.put, List.setIfInBounds_toArray, List.set_cons_zero, List.set_cons_succ]
              refine take 7 64 (v := .int .u8 ((n % 16 : Nat) : Int)) rfl rfl (by kernel_rfl) (by kernel_rfl) (by kernel_rfl) rfl (fun W hW => exec_bin rfl rfl rfl rfl (f4 W)) (by assumption) ?_
              simp only [Act.put, List.setIfInBounds_toArray, List.set_cons_zero, List.set_cons_succ]
              refine take 8 65 (v := .int .u8 ((hexB (n % 16)).toNat : Int)) rfl rfl (by kernel_rfl) (by kernel_rfl) (by kernel_rfl) rfl (fun W hW => exec_index rfl rfl rfl (f5 W)) (by assumption) ?_
              simp only [Act.put, List.setIfInBounds_toArray, List.set_cons_zero, List.set_cons_succ]
              obtain ⟨v2, W2, ha, hB⟩ := (hJ.below (below_new (.cells #[.int .u8 92, .int .u8 117, .int .u8 48, .int .u8 48, .int .u8 ((hexB (n / 16)).toNat : Int), .int .u8 ((hexB (n % 16)).toNat : Int)] 5))).step (m := [92, 117, 48, 48, hexB (n / 16), hexB (n % 16)]) (heap_alloc_new W0 _) rfl (by have := HS.out.2; simp; omega) 68
              refine onlyRun 9 66 (v := .slice (some ⟨W0.heap.size, 0, none⟩) 6 6) rfl rfl (by kernel_rfl) rfl (exec_six rfl rfl rfl (run_six _ _ _ _ _ _ W0)) (.inr (below_trans hU (below_new _))) ?_
              simp only [Act.put, List.setIfInBounds_toArray, List.set_cons_zero, List.set_cons_succ]
              have hU := hB.b
              refine onlyRun 10 67 (v := v2) rfl rfl (by kernel_rfl) rfl (exec_append rfl rfl rfl ha) (.inr hB.b) ?_
              simp only [Act.put, List.setIfInBounds_toArray, List.set_cons_zero, List.set_cons_succ]
              refine take 11 4 (v := v2) rfl rfl (by kernel_rfl) (by kernel_rfl) (by kernel_rfl) rfl (fun W hW => exec_assign rfl rfl) (by assumption) ?_
              simp only [Act.put, List.setIfInBounds_toArray, List.set_cons_zero, List.set_cons_succ]
              refine done (by kernel_rfl) ?_ _
              have HB := Lib.hid hB
              clear hB ha hJ hU f1 f2 f4 f5 HJ
              go_wp2
              go_roundw
              case rel => exact ⟨j + 1, _, hlt1, by go_num, rfl, Lib.hid (by rw [HS.out.1, HE.out]; exact HB.out)⟩
              case measure => simp [intOf]; omega
        · rw [if_neg hd] at hesc
          have HE := Lib.hid hesc
          have d1 : decide ((c.toNat : Int) < 32) = false := by rw [decide_eq_false_iff_not]; omega
          have d2 : ((c.toNat : Int) == 127) = false := by rw [beq_eq_false_iff_ne]; omega
          obtain ⟨v2, W2, ha, hB⟩ := (HJ.out.below (below_new (.cells #[.int .u8 (c.toNat : Int)] 5))).step (m := [c]) (heap_alloc_new wr _) rfl (by have := HS.out.2; simp; omega) 68
          have Ha := Lib.hid ha
          have HB := Lib.hid hB
          clear hd hesc ha hB HJ
          go_wp2_with (first
            | (refine wpList_run rfl (exec_index rfl rfl rfl (HX.out _)) ?_)
            | (refine wpList_append rfl rfl rfl rfl Ha.out ?_))
          go_roundw
          case rel => exact ⟨j + 1, _, hlt1, by go_num, rfl, Lib.hid (by rw [HS.out.1, HE.out]; exact HB.out)⟩
          case measure => simp [intOf]; omega
    · obtain rfl : j = s.length := by omega
      have hln := quote_len s s.length
      have hJ := HJ.out
      rw [List.take_length] at hJ hln
      have hR : R = (39 :: s.flatMap escB) ++ [39] := by rw [HN.out]; rfl
      obtain ⟨v2, W2, ha, hB⟩ := (hJ.below (below_new (.cells #[.int .u8 39] 5))).step (m := [39]) (heap_alloc_new wr _) rfl (by simp only [List.length_singleton]; omega) 68
      rw [← hR] at hB
      have Ha := Lib.hid ha
      have HC := Lib.hid hB.str
      have HB := Lib.hid hB.b
      clear ha hB hJ HJ hln hR HN
      go_wp2_with (first
        | (refine wpList_append rfl rfl rfl rfl Ha.out ?_)
        | (refine wpList_run rfl (exec_convert rfl rfl HC.out) ?_))
      go_ret
      exact ⟨rfl, HB.out⟩
/-! ### Name -/
theorem tick_step {s : List UInt8} {j : Nat} (h : j < s.length) : 96 :: (s.take (j + 1)).flatMap tickB = (96 :: (s.take j).flatMap tickB) ++ tickB s[j] := by
  rw [List.take_succ_eq_append_getElem h, List.flatMap_append]; simp
theorem tick_lenj (s : List UInt8) (j : Nat) : (96 :: (s.take j).flatMap tickB).length ≤ 1 + 2 * s.length := by
  have h1 := tick_len (s.take j)
  have h2 : (s.take j).length ≤ s.length := List.length_take_le' _ _
  rw [List.length_cons]
  omega
set_option maxRecDepth 100000 in
set_option maxHeartbeats 8000000 in
theorem nameR_any (s : List UInt8) (hs : s.length ≤ 1099511627776) (w : World) : Calls Tryz.prog 32 #[.string (strB s)] w fun e w' => e = .returned (.string (strB (nameB s))) ∧ Below w.heap.size w w' := by
  have z1 : (s.length : Int) ≤ 140737488355328 := by omega
  have hsz : (strB s).size = s.length := rfl
  have HN := Lib.hid (show nameB s = if plainB s then s else 96 :: (s.flatMap tickB ++ [96]) from rfl)
  have HB0 := Lib.hid (Buf.start (Below.refl w.heap.size w) (m := [96]) (cs := #[.int .u8 96]) rfl (by simp))
  have HP := Lib.hid (fun W => plainR_any s (by omega) W)
  generalize nameB s = R at *
  cases hp : plainB s with
  | true =>
    rw [hp] at HN HP
    go_enter Tryz.func32, Tryz.ntmps32
    go_wp2_with (go_at_call 72; refine (HP.out _).mono ?_; rintro e w' ⟨rfl, rfl⟩)
    go_ret
    exact ⟨ret_str (by rw [HN.out]; rfl), Below.refl _ _⟩
  | false =>
    rw [hp] at HN HP
    clear hp
    go_enter Tryz.func32, Tryz.ntmps32
    go_wp2_with (go_at_call 72; refine (HP.out _).mono ?_; rintro e w' ⟨rfl, rfl⟩)
    clear HP
    go_loopw [3, 4] (fun o i W => ∃ (j : Nat) (ov : Value), j ≤ s.length ∧ i = .int .i64 (j : Int) ∧ ov = o ∧ Hid (Buf w W ov (96 :: (s.take j).flatMap tickB))) (fun _ i _ => s.length - (intOf i).toNat)
    case atStart => exact ⟨0, _, Nat.zero_le _, rfl, rfl, HB0⟩
    case round =>
      clear HB0
      obtain ⟨j, ov, hj, rfl, rfl, HJ⟩ := hrel
      by_cases hlt : j < s.length
      · have hlt1 : j + 1 ≤ s.length := hlt
        have hx := fun W => index_str s j hlt W
        have hst := tick_step hlt
        have hln := tick_lenj s j
        generalize 96 :: (s.take j).flatMap tickB = L at *
        generalize s[j] = c at *
        have HS := Lib.hid hst
        obtain ⟨v2, W2, ha, hB⟩ := (HJ.out.below (below_new (.cells #[.int .u8 (c.toNat : Int)] 5))).step (m := [c]) (heap_alloc_new wr _) rfl (by simp only [List.length_singleton]; omega) 68
        by_cases h96 : c = 96
        · subst h96
          obtain ⟨v3, W3, ha3, hB3⟩ := (hB.below (below_new (.cells #[.int .u8 96] 5))).step (m := [96]) (heap_alloc_new W2 _) rfl (by simp only [List.length_append, List.length_singleton]; omega) 68
          have HX := Lib.hid (show ∀ W : World, (Instr.index 9 (.string (strB s)) (.int .i64 (j : Int))).run Tryz.prog W = .ok (.int .u8 96) W from hx)
          have Ha := Lib.hid (show (Builtin.append_ #[68, 68] 68 #[ov, .slice (some ⟨wr.heap.size, 0, none⟩) 1 1]).run Tryz.prog (wr.alloc (.cells #[.int .u8 96] 5)) = .ok v2 W2 from ha)
          have Ha3 := Lib.hid ha3
          have HB := Lib.hid (show Buf w W3 v3 (L ++ [96] ++ [96]) from hB3)
          clear ha hB ha3 hB3 HJ hx hst hln
          go_wp2_with (first
            | (refine wpList_run rfl (exec_index rfl rfl rfl (HX.out _)) ?_)
            | (refine wpList_append rfl rfl rfl rfl Ha.out ?_; clear Ha)
            | (refine wpList_append rfl rfl rfl rfl Ha3.out ?_))
          go_roundw
          case rel => exact ⟨j + 1, _, hlt1, by go_num, rfl, Lib.hid (by rw [HS.out]; have := HB.out; rw [List.append_assoc] at this; exact this)⟩
          case measure => simp [intOf]; omega
        · have g1 : ((c.toNat : Int) == 96) = false := by rw [beq_eq_false_iff_ne]; intro e; exact h96 (UInt8.toNat_inj.1 (show c.toNat = 96 by omega))
          have HE := Lib.hid (show tickB c = [c] by unfold tickB; rw [if_neg h96])
          have HX := Lib.hid hx
          have Ha := Lib.hid ha
          have HB := Lib.hid hB
          clear ha hB HJ hx hst hln h96
          go_wp2_with (first
            | (refine wpList_run rfl (exec_index rfl rfl rfl (HX.out _)) ?_)
            | (refine wpList_append rfl rfl rfl rfl Ha.out ?_))
          go_roundw
          case rel => exact ⟨j + 1, _, hlt1, by go_num, rfl, Lib.hid (by rw [HS.out, HE.out]; exact HB.out)⟩
          case measure => simp [intOf]; omega
      · obtain rfl : j = s.length := by omega
        have hln := tick_lenj s s.length
        have hJ := HJ.out
        rw [List.take_length] at hJ hln
        have hR : R = (96 :: s.flatMap tickB) ++ [96] := by rw [HN.out]; rfl
        obtain ⟨v2, W2, ha, hB⟩ := (hJ.below (below_new (.cells #[.int .u8 96] 5))).step (m := [96]) (heap_alloc_new wr _) rfl (by simp only [List.length_singleton]; omega) 68
        rw [← hR] at hB
        have Ha := Lib.hid ha
        have HC := Lib.hid hB.str
        have HB := Lib.hid hB.b
        clear ha hB hJ HJ hln hR HN
        go_wp2_with (first
          | (refine wpList_append rfl rfl rfl rfl Ha.out ?_)
          | (refine wpList_run rfl (exec_convert rfl rfl HC.out) ?_))
        go_ret
        exact ⟨rfl, HB.out⟩
end Go.Proofs.YtnkaegdnjfpliaaGreatDoor

/-! The document's Text. Printed by gen_reft.py. -/
namespace Go.Proofs.YtnkaegdnjfpliaaGreatDoor
set_option linter.unusedSimpArgs false
set_option linter.unusedVariables false
open Go.RowKit

theorem join_snoc {l : List (List UInt8)} {x sep : List UInt8} (h : l ≠ []) : Lib.join (l ++ [x]) sep = Lib.join l sep ++ sep ++ x := by
  cases l with
  | nil => exact absurd rfl h
  | cons y r => rw [List.cons_append, Lib.join_cons, Lib.join_cons]; simp [Lib.joinTail]
theorem take_ne {α : Type} {E : List α} {n j : Nat} (h : E.length = n) (hj : j < n) (h0 : 0 < j) : E.take j ≠ [] := by
  intro e
  have := congrArg List.length e
  rw [List.length_take, h] at this
  simp only [List.length_nil] at this
  omega
theorem lens_take (xs : List (List UInt8)) (j : Nat) : Lib.lens (xs.take j) ≤ Lib.lens xs := by
  induction xs generalizing j with
  | nil => simp
  | cons x r ih =>
    cases j with
    | zero => simp [Lib.lens]
    | succ j => have := ih j; simp [Lib.lens] at this ⊢; omega
theorem join_take_le {E : List (List UInt8)} {m : Nat} (h : Lib.lens E + 2 * E.length ≤ m) (j : Nat) : (Lib.join (E.take j) [44, 32]).length ≤ m := by
  have h1 := join_le (E.take j) [44, 32]
  have h2 := lens_take E j
  have h3 : (E.take j).length ≤ E.length := List.length_take_le' _ _
  simp only [List.length_cons, List.length_nil] at h1
  omega
/-- A box, and an element of its list. -/
structure TxU (w : World) (X : Array Value) (s1 : V) (g o : Nat) (c0 c1 c2 c3 c4 c5 : Value) (W : World) : Prop where
  one : OneB w W X
  h0 : W.cell? ⟨g, o, none⟩ = some c0
  h1 : W.cell? ⟨g, o + 1, none⟩ = some c1
  h2 : W.cell? ⟨g, o + 2, none⟩ = some c2
  h3 : W.cell? ⟨g, o + 3, none⟩ = some c3
  h4 : W.cell? ⟨g, o + 4, none⟩ = some c4
  h5 : W.cell? ⟨g, o + 5, none⟩ = some c5
  rd : VRd W s1 #[c0, c1, c2, c3, c4, c5]
theorem TxU.keep {w W W' : World} {X : Array Value} {s1 : V} {g o : Nat} {c0 c1 c2 c3 c4 c5 : Value} (h : TxU w X s1 g o c0 c1 c2 c3 c4 c5 W) (b : Below W.heap.size W W') : TxU w X s1 g o c0 c1 c2 c3 c4 c5 W' :=
  ⟨h.one.below b, belowCell b (ltOf h.h0) h.h0, belowCell b (ltOf h.h1) h.h1, belowCell b (ltOf h.h2) h.h2, belowCell b (ltOf h.h3) h.h3, belowCell b (ltOf h.h4) h.h4, belowCell b (ltOf h.h5) h.h5, h.rd.below b⟩
set_option maxRecDepth 100000 in
set_option maxHeartbeats 8000000 in
theorem textR_any : ∀ (v : V), mayV Lib.validD v = true → rngV v → totV v ≤ 1000000 → ∀ (w : World) (x : Array Value), Env w → VRd w v x →
    Calls Tryz.prog 29 #[.agg x] w fun e w' => e = .returned (.string (strB (textV v))) ∧ Below w.heap.size w w' := by
  refine V.ind fun k b n t ks l ih => ?_
  intro hmay hrng htot w x hE hx
  have hlen := text_len _ hrng
  obtain ⟨hone, hsub⟩ := mayV_iff.1 hmay
  have hF := oneV_iff.1 hone
  obtain ⟨⟨r1, r2⟩, hrl⟩ := rngV_mk.1 hrng
  have hrl := rngVs_iff.1 hrl
  rw [totV_mk] at htot hlen
  have hlen' := totVs_length l
  obtain ⟨pk, ck, pl, cl, rfl, _, hk1, hl1⟩ := VRd_iff.1 hx
  have f1 := hF.lo
  have f2 := hF.hi
  have f3 := hF.len
  simp only [V.kind, V.text, V.keys, V.list] at f1 f2 f3 hsub
  have hT := OneB.start w #[.int .i64 k, .bool b, .int .i64 n, .string (strB t), .slice pk ks.length ck, .slice pl l.length cl]
  have HI := Lib.hid (fun (W : World) (hb : Below w.heap.size w W) => itoa_any (hE.b hb) n r1 r2)
  have HQ := Lib.hid (fun (W : World) => quoteR_any t (by omega) W)
  have p0 := cellOf (o := 0) hT.1 rfl; have p1 := cellOf (o := 1) hT.1 rfl; have p2 := cellOf (o := 2) hT.1 rfl; have p3 := cellOf (o := 3) hT.1 rfl; have p4 := cellOf (o := 4) hT.1 rfl; have p5 := cellOf (o := 5) hT.1 rfl
  have HT := Lib.hid hT
  have hL : LRd w pl cl l := hl1
  have hil := Lib.itoa_length_le n r1 r2
  have zi : ((Lib.itoa n).length : Int) ≤ 21 := by omega
  have zs : (strB (Lib.itoa n)).size = (Lib.itoa n).length := rfl
  have hk : k = 1 ∨ k = 2 ∨ k = 3 ∨ k = 6 ∨ k = 7 ∨ k = 0 ∨ k = 4 ∨ k = 5 := by omega
  clear hone hmay hrng hx hT hl1 f1 f2
  rcases hk with rfl | rfl | rfl | rfl | rfl | rfl | h45
  · have htx : textV (.mk 1 b n t ks l) = if b then [116, 114, 117, 101] else [102, 97, 108, 115, 101] := by rw [textV]; simp
    rw [htx]
    clear htx
    have HBT := Lib.hid (fun W : World => bool_text b W)
    generalize (if b = true then [116, 114, 117, 101] else [102, 97, 108, 115, 101] : List UInt8) = T at *
    go_enter Tryz.func29, Tryz.ntmps29
    go_wp2_with (go_at_call 69; refine (HBT.out _).mono ?_; rintro e w1 ⟨rfl, rfl⟩)
    go_ret
    exact ⟨rfl, HT.out.2⟩
  · have htx : textV (.mk 2 b n t ks l) = Lib.itoa n := by rw [textV]; simp
    rw [htx]
    clear htx
    go_enter Tryz.func29, Tryz.ntmps29
    go_wp2_with (go_at_call 70; refine (HI.out _ HT.out.2).mono ?_; rintro e w1 ⟨rfl, hb⟩; have HB := Lib.hid (below_trans HT.out.2 hb); clear hb)
    go_ret
    exact ⟨rfl, HB.out⟩
  · have htx : textV (.mk 3 b n t ks l) = quoteB t := by rw [textV]; simp
    rw [htx]
    clear htx
    go_enter Tryz.func29, Tryz.ntmps29
    go_wp2_with (go_at_call 31; refine (HQ.out _).mono ?_; rintro e w1 ⟨rfl, hb⟩; have HB := Lib.hid (below_trans HT.out.2 hb); clear hb)
    go_ret
    exact ⟨rfl, HB.out⟩
  · have htx : strB (textV (.mk 6 b n t ks l)) = strB [60, 110] ++ strB (Lib.itoa n) ++ strB [62] := by rw [textV, strB_append, strB_append]; simp
    rw [htx]
    clear htx
    generalize Lib.itoa n = it at *
    go_enter Tryz.func29, Tryz.ntmps29
    go_wp2_with (go_at_call 70; refine (HI.out _ HT.out.2).mono ?_; rintro e w1 ⟨rfl, hb⟩; have HB := Lib.hid (below_trans HT.out.2 hb); clear hb)
    go_ret
    exact ⟨rfl, HB.out⟩
  · have htx : strB (textV (.mk 7 b n t ks l)) = strB [60, 114] ++ strB (Lib.itoa n) ++ strB [62] := by rw [textV, strB_append, strB_append]; simp
    rw [htx]
    clear htx
    generalize Lib.itoa n = it at *
    go_enter Tryz.func29, Tryz.ntmps29
    go_wp2_with (go_at_call 70; refine (HI.out _ HT.out.2).mono ?_; rintro e w1 ⟨rfl, hb⟩; have HB := Lib.hid (below_trans HT.out.2 hb); clear hb)
    go_ret
    exact ⟨rfl, HB.out⟩
  · have htx : textV (.mk 0 b n t ks l) = [110, 117, 108, 108] := by rw [textV]; simp
    rw [htx]
    clear htx
    go_enter Tryz.func29, Tryz.ntmps29
    go_wp2
    go_ret
    exact ⟨rfl, HT.out.2⟩
  · clear HI HQ zi zs hil r1 r2
    rcases h45 with rfl | rfl
    · have htx : strB (textV (.mk 4 b n t ks l)) = strB [91] ++ strB (Lib.join (textsV l) [44, 32]) ++ strB [93] := by rw [textV, strB_append, strB_append]; simp
      rw [htx]
      have hEl : (textsV l).length = l.length := by rw [textsV_eq, List.length_map]
      have hEg : ∀ j (h : j < l.length), (textsV l)[j]? = some (textV l[j]) := fun j h => textsV_get h
      have hle := lens_texts (fun v hv => text_len v (hrl v hv))
      have hle2 := join_take_le (E := (textsV l)) (m := 50000000) (by omega)
      have hiv := fun (v : V) (hv : v ∈ l) (W : World) (hb : Below w.heap.size w W) (x : Array Value) (hx : VRd W v x) => ih v hv (hsub v hv) (hrl v hv) (by have := totVs_mem hv; omega) W x (hE.b hb) hx
      have hzv := fun (v : V) (hv : v ∈ l) => (show (textV v).length ≤ 40000000 by have := text_len v (hrl v hv); have := totVs_mem hv; omega)
      generalize (textsV l) = E at *
      have z1 : (l.length : Int) ≤ 140737488355328 := by omega
      have HV := Lib.hid (And.intro hiv (And.intro hzv hL))
      have HG := Lib.hid (And.intro hEl hEg)
      have HLE := Lib.hid hle2
      clear hiv hzv hEl hEg htx hsub hrl ih hlen htot hlen' hE hL hk1 hF f3 hle hle2 p0 p1 p2 p3
      go_enter Tryz.func29, Tryz.ntmps29
      go_wp2
      go_loopw [3, 4] (fun o i W => ∃ (j : Nat) (S : List UInt8), j ≤ l.length ∧ i = .int .i64 (j : Int) ∧ o = .string (strB S) ∧ Hid (Lib.join (E.take j) [44, 32] = S) ∧ Hid (OneB w W #[.int .i64 4, .bool b, .int .i64 n, .string (strB t), .slice pk ks.length ck, .slice pl l.length cl])) (fun _ i _ => l.length - (intOf i).toNat)
      case atStart => exact ⟨0, [], Nat.zero_le _, rfl, rfl, Lib.hid (by simp [Lib.join_nil]), HT⟩
      case round =>
        clear HT p4 p5
        obtain ⟨j, S, hj, rfl, rfl, HS, HJ⟩ := hrel
        have p0 := cellOf (o := 0) HJ.out.1 rfl; have p4 := cellOf (o := 4) HJ.out.1 rfl; have p5 := cellOf (o := 5) HJ.out.1 rfl
        have hSl : S.length ≤ 50000000 := by have := HLE.out j; rw [HS.out] at this; exact this
        have zS : (S.length : Int) ≤ 50000000 := by omega
        have zSs : (strB S).size = S.length := rfl
        clear hSl
        by_cases hlt : j < l.length
        · have hlt1 : j + 1 ≤ l.length := hlt
          have hbw : Below w.heap.size w wr := HJ.out.2
          obtain ⟨g1, o1, pk1, ck1, pl1, cl1, rfl, ⟨a0, a1, a2, a3, a4, a5⟩, hv1⟩ := (HV.out.2.2.below hbw).at hlt
          have hcall := HV.out.1 l[j] (List.getElem_mem hlt)
          have hzl := HV.out.2.1 l[j] (List.getElem_mem hlt)
          have htk : E.take (j + 1) = E.take j ++ [E[j]'(by rw [HG.out.1]; exact hlt)] := List.take_succ_eq_append_getElem _
          have hej := HG.out.2 j hlt
          rw [List.getElem?_eq_getElem (by rw [HG.out.1]; exact hlt), Option.some.injEq] at hej
          rw [hej] at htk
          generalize l[j] = s1 at *
          have zt : ((textV s1).length : Int) ≤ 40000000 := by omega
          have zts : (strB (textV s1)).size = (textV s1).length := rfl
          have HU : Hid (TxU w #[.int .i64 4, .bool b, .int .i64 n, .string (strB t), .slice pk ks.length ck, .slice (some ⟨g1, o1, none⟩) l.length cl] s1 g1 (o1 + j * 6) (.int .i64 s1.kind) (.bool s1.b) (.int .i64 s1.n) (.string (strB s1.text)) (.slice pk1 s1.keys.length ck1) (.slice pl1 s1.list.length cl1) wr) := Lib.hid ⟨HJ.out, a0, a1, a2, a3, a4, a5, hv1⟩
          have HD := Lib.hid (And.intro htk (fun (W : World) (x : Array Value) (h : TxU w #[.int .i64 4, .bool b, .int .i64 n, .string (strB t), .slice pk ks.length ck, .slice (some ⟨g1, o1, none⟩) l.length cl] s1 g1 (o1 + j * 6) (.int .i64 s1.kind) (.bool s1.b) (.int .i64 s1.n) (.string (strB s1.text)) (.slice pk1 s1.keys.length ck1) (.slice pl1 s1.list.length cl1) W) => hcall W h.one.2 _ h.rd))
          clear hcall hv1 hbw htk hej hzl HJ
          generalize textV s1 = tx at *
          by_cases j0 : 0 < j
          · skip
            have d0 : decide ((0 : Int) < (j : Int)) = true := by rw [decide_eq_true_iff]; omega
            have d1 : decide (0 < j) = true := by rw [decide_eq_true_iff]; omega
            have hS2 : Lib.join (E.take (j + 1)) [44, 32] = S ++ [44, 32] ++ tx := by rw [HD.out.1, join_snoc (take_ne HG.out.1 hlt j0), ← HS.out]
            have HS2 := Lib.hid hS2
            clear hS2 HS j0
            go_wp2_with (first
              | (go_at_call 29
                 (
                  refine (HD.out.2 _ #[] HU.out).mono ?_
                  rintro e w2 ⟨rfl, hb⟩
                  have hU := HU.out.keep hb
                  have HU := Lib.hid hU
                  clear hb hU
                  have a0 := HU.out.h0; have a1 := HU.out.h1; have a2 := HU.out.h2; have a3 := HU.out.h3; have a4 := HU.out.h4; have a5 := HU.out.h5; have p0 := cellOf (o := 0) HU.out.one.1 rfl; have p4 := cellOf (o := 4) HU.out.one.1 rfl; have p5 := cellOf (o := 5) HU.out.one.1 rfl)))
            have HT1 := Lib.hid HU.out.one
            go_roundw
            case rel => exact ⟨_, S ++ [44, 32] ++ tx, hlt1, by go_num, by show Value.string (strB S ++ strB [44, 32] ++ strB tx) = _; rw [strB_append, strB_append], HS2, HT1⟩
            case measure => simp [intOf]; omega
          · skip
            have j00 : j = 0 := by omega
            have d0 : decide ((0 : Int) < (j : Int)) = false := by rw [decide_eq_false_iff_not]; omega
            have d1 : decide (0 < j) = false := by rw [decide_eq_false_iff_not]; omega
            have hS2 : Lib.join (E.take (j + 1)) [44, 32] = S ++ tx := by rw [HD.out.1, ← HS.out, show E.take j = [] by rw [j00]; rfl]; simp [Lib.join_one, Lib.join_nil]
            have HS2 := Lib.hid hS2
            clear hS2 HS j0 j00
            go_wp2_with (first
              | (go_at_call 29
                 (
                  refine (HD.out.2 _ #[] HU.out).mono ?_
                  rintro e w2 ⟨rfl, hb⟩
                  have hU := HU.out.keep hb
                  have HU := Lib.hid hU
                  clear hb hU
                  have a0 := HU.out.h0; have a1 := HU.out.h1; have a2 := HU.out.h2; have a3 := HU.out.h3; have a4 := HU.out.h4; have a5 := HU.out.h5; have p0 := cellOf (o := 0) HU.out.one.1 rfl; have p4 := cellOf (o := 4) HU.out.one.1 rfl; have p5 := cellOf (o := 5) HU.out.one.1 rfl)))
            have HT1 := Lib.hid HU.out.one
            go_roundw
            case rel => exact ⟨_, S ++ tx, hlt1, by go_num, by show Value.string (strB S ++ strB tx) = _; rw [strB_append], HS2, HT1⟩
            case measure => simp [intOf]; omega
        · obtain rfl : j = l.length := by omega
          have h := HS.out
          rw [← HG.out.1, List.take_length] at h
          have HF := Lib.hid h
          clear h HS
          go_wp2
          go_ret
          exact ⟨by rw [HF.out]; rfl, HJ.out.2⟩
    · have htx : strB (textV (.mk 5 b n t ks l)) = strB [123] ++ strB (Lib.join (entriesV ks l) [44, 32]) ++ strB [125] := by rw [textV, strB_append, strB_append]; simp
      rw [htx]
      have hEl : (entriesV ks l).length = l.length := entriesV_length l ks
      have hEg : ∀ j (h : j < l.length), ∀ (h2 : j < ks.length), (entriesV ks l)[j]? = some (nameB ks[j] ++ [58, 32] ++ textV l[j]) := fun j h h2 => entriesV_get (f3 rfl) h h2
      have hle := lens_entries (fun v hv => text_len v (hrl v hv)) ks
      have hle2 := join_take_le (E := (entriesV ks l)) (m := 50000000) (by omega)
      have hiv := fun (v : V) (hv : v ∈ l) (W : World) (hb : Below w.heap.size w W) (x : Array Value) (hx : VRd W v x) => ih v hv (hsub v hv) (hrl v hv) (by have := totVs_mem hv; omega) W x (hE.b hb) hx
      have hzv := fun (v : V) (hv : v ∈ l) => (show (textV v).length ≤ 40000000 by have := text_len v (hrl v hv); have := totVs_mem hv; omega)
      have hkl : ks.length = l.length := f3 rfl
      have hkz : ∀ s ∈ ks, s.length ≤ 2000000 := fun s hs => by have := sum_mem hs; omega
      have HK := Lib.hid (And.intro hkl (And.intro hk1 hkz))
      clear hkl hkz
      generalize (entriesV ks l) = E at *
      have z1 : (l.length : Int) ≤ 140737488355328 := by omega
      have HV := Lib.hid (And.intro hiv (And.intro hzv hL))
      have HG := Lib.hid (And.intro hEl hEg)
      have HLE := Lib.hid hle2
      clear hiv hzv hEl hEg htx hsub hrl ih hlen htot hlen' hE hL hk1 hF f3 hle hle2 p0 p1 p2 p3
      go_enter Tryz.func29, Tryz.ntmps29
      go_wp2
      go_loopw [3, 4] (fun o i W => ∃ (j : Nat) (S : List UInt8), j ≤ l.length ∧ i = .int .i64 (j : Int) ∧ o = .string (strB S) ∧ Hid (Lib.join (E.take j) [44, 32] = S) ∧ Hid (OneB w W #[.int .i64 5, .bool b, .int .i64 n, .string (strB t), .slice pk ks.length ck, .slice pl l.length cl])) (fun _ i _ => l.length - (intOf i).toNat)
      case atStart => exact ⟨0, [], Nat.zero_le _, rfl, rfl, Lib.hid (by simp [Lib.join_nil]), HT⟩
      case round =>
        clear HT p4 p5
        obtain ⟨j, S, hj, rfl, rfl, HS, HJ⟩ := hrel
        have p0 := cellOf (o := 0) HJ.out.1 rfl; have p4 := cellOf (o := 4) HJ.out.1 rfl; have p5 := cellOf (o := 5) HJ.out.1 rfl
        have hSl : S.length ≤ 50000000 := by have := HLE.out j; rw [HS.out] at this; exact this
        have zS : (S.length : Int) ≤ 50000000 := by omega
        have zSs : (strB S).size = S.length := rfl
        clear hSl
        by_cases hlt : j < l.length
        · have hlt1 : j + 1 ≤ l.length := hlt
          have hbw : Below w.heap.size w wr := HJ.out.2
          obtain ⟨g1, o1, pk1, ck1, pl1, cl1, rfl, ⟨a0, a1, a2, a3, a4, a5⟩, hv1⟩ := (HV.out.2.2.below hbw).at hlt
          have hcall := HV.out.1 l[j] (List.getElem_mem hlt)
          have hzl := HV.out.2.1 l[j] (List.getElem_mem hlt)
          have htk : E.take (j + 1) = E.take j ++ [E[j]'(by rw [HG.out.1]; exact hlt)] := List.take_succ_eq_append_getElem _
          have hltk : j < ks.length := by rw [HK.out.1]; exact hlt
          have hej := HG.out.2 j hlt hltk
          rw [List.getElem?_eq_getElem (by rw [HG.out.1]; exact hlt), Option.some.injEq] at hej
          rw [hej] at htk
          obtain ⟨bk, ok, rfl, q0, _⟩ := (HK.out.2.1.below hbw).get hltk
          have hnz := HK.out.2.2 ks[j] (List.getElem_mem hltk)
          have hnl : (nameB ks[j]).length ≤ 4000002 := by have := nameB_len ks[j]; omega
          have zn : ((nameB ks[j]).length : Int) ≤ 4000002 := by omega
          have zns : (strB (nameB ks[j])).size = (nameB ks[j]).length := rfl
          have hnm := fun (W : World) => nameR_any ks[j] (by omega) W
          have hkn : (ks.length : Int) = (l.length : Int) := by rw [HK.out.1]
          generalize ks[j] = s2 at *
          generalize nameB s2 = nm at *
          have HM := Lib.hid hnm
          clear hnm hnz hnl
          generalize l[j] = s1 at *
          have zt : ((textV s1).length : Int) ≤ 40000000 := by omega
          have zts : (strB (textV s1)).size = (textV s1).length := rfl
          have HU : Hid (TxU w #[.int .i64 5, .bool b, .int .i64 n, .string (strB t), .slice (some ⟨bk, ok, none⟩) ks.length ck, .slice (some ⟨g1, o1, none⟩) l.length cl] s1 g1 (o1 + j * 6) (.int .i64 s1.kind) (.bool s1.b) (.int .i64 s1.n) (.string (strB s1.text)) (.slice pk1 s1.keys.length ck1) (.slice pl1 s1.list.length cl1) wr) := Lib.hid ⟨HJ.out, a0, a1, a2, a3, a4, a5, hv1⟩
          have HD := Lib.hid (And.intro htk (fun (W : World) (x : Array Value) (h : TxU w #[.int .i64 5, .bool b, .int .i64 n, .string (strB t), .slice (some ⟨bk, ok, none⟩) ks.length ck, .slice (some ⟨g1, o1, none⟩) l.length cl] s1 g1 (o1 + j * 6) (.int .i64 s1.kind) (.bool s1.b) (.int .i64 s1.n) (.string (strB s1.text)) (.slice pk1 s1.keys.length ck1) (.slice pl1 s1.list.length cl1) W) => hcall W h.one.2 _ h.rd))
          clear hcall hv1 hbw htk hej hzl HJ
          generalize textV s1 = tx at *
          by_cases j0 : 0 < j
          · skip
            have d0 : decide ((0 : Int) < (j : Int)) = true := by rw [decide_eq_true_iff]; omega
            have d1 : decide (0 < j) = true := by rw [decide_eq_true_iff]; omega
            have hS2 : Lib.join (E.take (j + 1)) [44, 32] = S ++ [44, 32] ++ nm ++ [58, 32] ++ tx := by rw [HD.out.1, join_snoc (take_ne HG.out.1 hlt j0), ← HS.out]; simp
            have HS2 := Lib.hid hS2
            clear hS2 HS j0
            go_wp2_with (first
              | (go_at_call 32
                 (
                  refine (HM.out _).mono ?_
                  rintro e w2 ⟨rfl, hb⟩
                  have hU := HU.out.keep hb
                  have HU := Lib.hid hU
                  clear hb hU
                  have a0 := HU.out.h0; have a1 := HU.out.h1; have a2 := HU.out.h2; have a3 := HU.out.h3; have a4 := HU.out.h4; have a5 := HU.out.h5; have p0 := cellOf (o := 0) HU.out.one.1 rfl; have p4 := cellOf (o := 4) HU.out.one.1 rfl; have p5 := cellOf (o := 5) HU.out.one.1 rfl
                  clear HM))
              | (go_at_call 29
                 (
                  refine (HD.out.2 _ #[] HU.out).mono ?_
                  rintro e w2 ⟨rfl, hb⟩
                  have hU := HU.out.keep hb
                  have HU := Lib.hid hU
                  clear hb hU
                  have a0 := HU.out.h0; have a1 := HU.out.h1; have a2 := HU.out.h2; have a3 := HU.out.h3; have a4 := HU.out.h4; have a5 := HU.out.h5; have p0 := cellOf (o := 0) HU.out.one.1 rfl; have p4 := cellOf (o := 4) HU.out.one.1 rfl; have p5 := cellOf (o := 5) HU.out.one.1 rfl)))
            have HT1 := Lib.hid HU.out.one
            go_roundw
            case rel => exact ⟨_, S ++ [44, 32] ++ nm ++ [58, 32] ++ tx, hlt1, by go_num, by show Value.string (strB S ++ strB [44, 32] ++ strB nm ++ strB [58, 32] ++ strB tx) = _; rw [strB_append, strB_append, strB_append, strB_append], HS2, HT1⟩
            case measure => simp [intOf]; omega
          · skip
            have j00 : j = 0 := by omega
            have d0 : decide ((0 : Int) < (j : Int)) = false := by rw [decide_eq_false_iff_not]; omega
            have d1 : decide (0 < j) = false := by rw [decide_eq_false_iff_not]; omega
            have hS2 : Lib.join (E.take (j + 1)) [44, 32] = S ++ nm ++ [58, 32] ++ tx := by rw [HD.out.1, ← HS.out, show E.take j = [] by rw [j00]; rfl]; simp [Lib.join_one, Lib.join_nil]
            have HS2 := Lib.hid hS2
            clear hS2 HS j0 j00
            go_wp2_with (first
              | (go_at_call 32
                 (
                  refine (HM.out _).mono ?_
                  rintro e w2 ⟨rfl, hb⟩
                  have hU := HU.out.keep hb
                  have HU := Lib.hid hU
                  clear hb hU
                  have a0 := HU.out.h0; have a1 := HU.out.h1; have a2 := HU.out.h2; have a3 := HU.out.h3; have a4 := HU.out.h4; have a5 := HU.out.h5; have p0 := cellOf (o := 0) HU.out.one.1 rfl; have p4 := cellOf (o := 4) HU.out.one.1 rfl; have p5 := cellOf (o := 5) HU.out.one.1 rfl
                  clear HM))
              | (go_at_call 29
                 (
                  refine (HD.out.2 _ #[] HU.out).mono ?_
                  rintro e w2 ⟨rfl, hb⟩
                  have hU := HU.out.keep hb
                  have HU := Lib.hid hU
                  clear hb hU
                  have a0 := HU.out.h0; have a1 := HU.out.h1; have a2 := HU.out.h2; have a3 := HU.out.h3; have a4 := HU.out.h4; have a5 := HU.out.h5; have p0 := cellOf (o := 0) HU.out.one.1 rfl; have p4 := cellOf (o := 4) HU.out.one.1 rfl; have p5 := cellOf (o := 5) HU.out.one.1 rfl)))
            have HT1 := Lib.hid HU.out.one
            go_roundw
            case rel => exact ⟨_, S ++ nm ++ [58, 32] ++ tx, hlt1, by go_num, by show Value.string (strB S ++ strB nm ++ strB [58, 32] ++ strB tx) = _; rw [strB_append, strB_append, strB_append], HS2, HT1⟩
            case measure => simp [intOf]; omega
        · obtain rfl : j = l.length := by omega
          have h := HS.out
          rw [← HG.out.1, List.take_length] at h
          have HF := Lib.hid h
          clear h HS
          go_wp2
          go_ret
          exact ⟨by rw [HF.out]; rfl, HJ.out.2⟩
end Go.Proofs.YtnkaegdnjfpliaaGreatDoor

/-! A text that comes in. -/
namespace Go.Proofs.YtnkaegdnjfpliaaGreatDoor
set_option linter.unusedSimpArgs false
set_option linter.unusedVariables false
open Go.ChangeShapes Go.WideShapes Go.ChangeAt Go.RowKit Go.Joins

set_option maxRecDepth 100000 in
theorem string_in {H : Type} {enc : TypeId × Value → H} {w : World} {base : Nat} {held : Bool} {r : Reach} {b0 : Nat} {v : Value} {d : DataW H} {p : List MemPlace} (hv : Value.okWide Tryz.prog w r b0 9 v) (h : DataW.Trod enc Tryz.prog w base (fun _ => true) held 9 v d p) (hf : Fits 9 d) :
    ∃ s : List UInt8, v = .string (strB s) ∧ s.length ≤ 140737488355328 := by
  obtain ⟨s, rfl⟩ := okWide_string Tryz.underlying9 hv
  obtain ⟨fuel, h⟩ := h
  obtain ⟨s', e, e2, _⟩ := DataW.trod_string Tryz.underlying9 h
  have e2' : d = .lit (.string s'.data.toList) := (Prod.mk.inj e2).1
  rw [e2'] at hf
  have := fits_string hf
  have e3 : s = s' := by simpa [Value.cells] using e
  subst e3
  exact ⟨s.data.toList, by rw [strB_back], by omega⟩
end Go.Proofs.YtnkaegdnjfpliaaGreatDoor
