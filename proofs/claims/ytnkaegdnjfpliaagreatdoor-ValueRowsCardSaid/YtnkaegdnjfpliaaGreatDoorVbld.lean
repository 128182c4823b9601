/- strings.Builder: what is written. -/
import Derived.Test.YtnkaegdnjfpliaaGreatDoorBase
import Derived.Test.YtnkaegdnjfpliaaGreatDoorShelf
import Derived.OwnWalk
import Derived.Lib.Builder
import Derived.Lib.UnsafeStr
namespace Go.Proofs.YtnkaegdnjfpliaaGreatDoor
set_option linter.unusedSimpArgs false
set_option linter.unusedVariables false
open Go.RowKit

theorem builder_size : (Tryz.prog.info? 79).map (·.size) = some 2 := by kernel_rfl
theorem builder_lies : liesAt Tryz.prog Tryz.prog.depth 79 (2 / Tryz.prog.cellsOf 79) 0 79 1 = true := by kernel_rfl
set_option maxHeartbeats 1000000 in
set_option maxRecDepth 100000 in
theorem check_used (b : Nat) (w : World) (h0 : w.cell? ⟨b, 0, none⟩ = some (.pointer (some ⟨b, 0, none⟩))) :
    Calls Tryz.prog 106 #[.pointer (some ⟨b, 0, none⟩)] w fun e w' => e = .returned (.tuple #[]) ∧ w' = w := by
  obtain ⟨j, hj, _⟩ := Option.map_eq_some_iff.1 builder_size
  go_enter Tryz.func106, Tryz.ntmps106
  go_wp2
  rw [Lib.run_neq_ptr_same w _ Tryz.underlying77 hj]
  go_wp2
  go_end0
  exact ⟨rfl, rfl⟩
set_option maxHeartbeats 1000000 in
set_option maxRecDepth 100000 in
theorem check_fresh (b : Nat) (w : World) (h0 : w.cell? ⟨b, 0, none⟩ = some (.pointer none)) (hsh : w.shape? b = some (79, 2)) (hfz : w.frozen? ⟨b, 0, none⟩ = false) :
    Calls Tryz.prog 106 #[.pointer (some ⟨b, 0, none⟩)] w fun e w' => e = .returned (.tuple #[]) ∧ w' = w.setCell ⟨b, 0, none⟩ (.pointer (some ⟨b, 0, none⟩)) := by
  obtain ⟨j, hj, hjs⟩ := Option.map_eq_some_iff.1 builder_size
  go_enter Tryz.func106, Tryz.ntmps106
  go_wp2
  rw [Lib.run_to_unsafe w ⟨b, 0, none⟩ Tryz.underlying77 Tryz.underlying133 hj (by rw [hjs]; decide) hsh (Nat.zero_lt_succ 1)]
  simp only [Result.andThen]
  rw [Oper.upon_value]
  go_wp2
  rw [run_callFunc_extern Tryz.func126 (by kernel_rfl) (by kernel_rfl) (by kernel_rfl) (e := Extern.AbiNoEscape.same) (by kernel_rfl)]
  rw [Lib.run_noEscape]
  simp only [Result.andThen]
  rw [Oper.upon_value]
  go_wp2
  rw [Lib.run_from_unsafe w ⟨b, 0, none⟩ Tryz.underlying133 Tryz.underlying77 hj hsh builder_lies]
  simp only [Result.andThen]
  rw [Oper.upon_value]
  go_wp2
  go_end0
  exact ⟨rfl, rfl⟩
/-- Blocks that are frozen somewhere stay. -/
def Froz (w w' : World) : Prop := ∀ (g : Nat) (cs : Array Value) (t : TypeId) (fr : Nat × Nat), fr ≠ (0, 0) → w.heap[g]? = some (.cells cs t fr) → w'.heap[g]? = some (.cells cs t fr)
theorem Froz.refl (w : World) : Froz w w := fun _ _ _ _ _ h => h
theorem Froz.trans {a b c : World} (h : Froz a b) (k : Froz b c) : Froz a c := fun g cs t fr hf hg => k g cs t fr hf (h g cs t fr hf hg)
theorem Froz.setCell {w w1 : World} (h : Froz w w1) {b o : Nat} {sp : Option Nat} {cs : Array Value} {t : TypeId} (hb : w1.heap[b]? = some (.cells cs t (0, 0))) (v : Value) : Froz w (w1.setCell ⟨b, o, sp⟩ v) := by
  intro g cs' t' fr hf hg
  have h1 := h g cs' t' fr hf hg
  have hne : g ≠ b := by
    rintro rfl
    rw [hb] at h1
    simp only [Option.some.injEq, Obj.cells.injEq] at h1
    exact hf h1.2.2.symm
  rw [Below.heap_setCell _ _ _ _ hne]
  exact h1
theorem Froz.alloc {w w1 : World} (h : Froz w w1) (o : Obj) : Froz w (w1.alloc o) := by
  intro g cs' t' fr hf hg
  have h1 := h g cs' t' fr hf hg
  have hlt := (Array.getElem?_eq_some_iff.1 h1).1
  rw [heap_get_alloc, if_neg (by omega)]
  exact h1
theorem Froz.grown {w w1 w2 : World} {base n : Nat} {e : TypeId} {v : Value} {xs : List Value} (h : Froz w w1) (hown : w1.ownsRow base e 1 v n xs) (hb : ∀ k, k < w1.heap.size → v.ownBlock ≠ some k → w2.heap[k]? = w1.heap[k]?) : Froz w w2 := by
  intro g cs' t' fr hf hg
  have h1 := h g cs' t' fr hf hg
  have hlt := (Array.getElem?_eq_some_iff.1 h1).1
  rw [hb g hlt, h1]
  intro e'
  rcases hown.2 with ⟨hv, _⟩ | ⟨g', cap, cur, hv, _, hh, _⟩
  · rw [hv] at e'; simp [Value.ownBlock] at e'
  · rw [hv] at e'
    obtain rfl : g' = g := by simpa [Value.ownBlock] using e'
    rw [h1] at hh
    simp only [Option.some.injEq, Obj.cells.injEq] at hh
    exact hf hh.2.2
theorem check_any (B b : Nat) (bs : List Value) (w : World) (h : Lib.IsBuilder 79 5 B b bs w) :
    Calls Tryz.prog 106 #[.pointer (some ⟨b, 0, none⟩)] w fun e w' => e = .returned (.tuple #[]) ∧ Lib.BuilderAt 79 5 B b (.pointer (some ⟨b, 0, none⟩)) bs w' ∧ Below B w w' ∧ Froz w w' := by
  rcases h with h | h
  · refine (check_fresh b w h.cell0 h.shape h.frozen0).mono ?_
    rintro e w' ⟨rfl, rfl⟩
    have h2 := h
    obtain ⟨_, v, hbk, _⟩ := h2
    exact ⟨rfl, h.used _, (Below.refl B w).setCell (p := ⟨b, 0, none⟩) h.1 _, (Froz.refl w).setCell hbk _⟩
  · refine (check_used b w h.cell0).mono ?_
    rintro e w' ⟨rfl, rfl⟩
    exact ⟨rfl, h, Below.refl B _, Froz.refl _⟩
/-- A builder holds bytes. -/
def Bld (w : World) (B b : Nat) (l : List UInt8) : Prop := Lib.IsBuilder 79 5 B b (Lib.byteCells l) w ∧ B ≤ w.heap.size
theorem info_byte : ∃ i, Tryz.prog.info? 5 = some i ∧ i.zero = some (.int .u8 0) ∧ i.size = 1 ∧ i.bytes = 1 := info_parts (by kernel_rfl)
theorem put_bytes {w : World} {ad : Addr} {p : Option Addr} {n c : Nat} {u : Value} (hc : w.cell? ad = some u) (hf : w.frozen? ad = false) : (storeVar 68 ad (.slice p n c)).run Tryz.prog w = .ok () (w.setCell ad (.slice p n c)) := by
  simp [storeVar, go_sem, hc, hf]
set_option maxHeartbeats 1000000 in
set_option maxRecDepth 100000 in
theorem writeByte_any {B b : Nat} {l : List UInt8} {w : World} (h : Bld w B b l) (c : UInt8) (hlen : l.length + 1 ≤ 140737488355328) :
    Calls Tryz.prog 74 #[.pointer (some ⟨b, 0, none⟩), .int .u8 c.toNat] w fun e w' => e = .returned .nilIface ∧ Bld w' B b (l ++ [c]) ∧ Below B w w' ∧ Froz w w' := by
  obtain ⟨i0, hi, hz0, hz1, hz2⟩ := info_byte
  have hBw := h.2
  go_enter Tryz.func74, Tryz.ntmps74
  go_wp2_with (go_at_call 106; refine (check_any B b _ _ h.1).mono ?_)
  rintro e w1 ⟨rfl, h1, hb1, hfz1⟩
  obtain ⟨hB, v, hbk, hown, hne⟩ := h1
  rw [Lib.byteCells_length] at hown
  have c0 : w1.cell? ⟨b, 0, none⟩ = some (.pointer (some ⟨b, 0, none⟩)) := by rw [Lib.cell_of_heap hbk]; rfl
  have c1 : w1.cell? ⟨b, 1, none⟩ = some v := by rw [Lib.cell_of_heap hbk]; rfl
  go_wp2_with (at_builtin; refine wpList_append_own _ rfl _ _ 68 rfl B 5 i0 (.int .u8 0) 1 1 Tryz.underlying68 hi hz0 hz1 hz2 rfl (by decide) _ _ _ rfl (hown.alloc _) ⟨w1.heap.size, 0, none⟩ 1 1 [.int .u8 c.toNat] rfl rfl ?c1 ?c2 ?c3 ?c4 ?c5 ?_)
  case c1 =>
    intro j u hj
    match j, hj with
    | 0, hj => simp at hj; subst hj; simp [Addr.add]
  case c2 => intro u hu; simp at hu; subst hu; rfl
  case c3 => unfold maxLen; omega
  case c4 => omega
  case c5 => have := hb1.size; simp; omega
  intro v' w2 hown' hgrow _
  have hlt : b < w1.heap.size := (Array.getElem?_eq_some_iff.1 hbk).1
  have hb2 : w2.heap[b]? = some (.cells #[.pointer (some ⟨b, 0, none⟩), v] 79 (0, 0)) := by
    rw [hgrow.block b (by simp; omega) (fun e => hne e.symm), Lib.alloc_old w1 _ b hlt]
    exact hbk
  have d0 : w2.cell? ⟨b, 0, none⟩ = some (.pointer (some ⟨b, 0, none⟩)) := by rw [Lib.cell_of_heap hb2]; rfl
  have d1 : w2.cell? ⟨b, 1, none⟩ = some v := by rw [Lib.cell_of_heap hb2]; rfl
  have f1 : w2.frozen? ⟨b, 1, none⟩ = false := Lib.frozen_of_heap hb2 1
  obtain ⟨ao, n', cap, rfl⟩ : ∃ ao n' cap, v' = .slice ao n' cap := by
    rcases hown'.2 with ⟨hv, _⟩ | ⟨g, cap, cur, hv, _⟩
    · exact ⟨_, _, _, hv⟩
    · exact ⟨_, _, _, hv⟩
  go_wp2
  go_ret
  have hB2 := (hb1.alloc (by have := hb1.size; omega) (.cells #[.int .u8 c.toNat] 5)).grown hgrow (by have := hb1.size; simp; omega) (fun k hk => (hown.lt k hk).1)
  refine ⟨rfl, ⟨.inr (Lib.BuilderAt.put (T := 79) (e := 5) hB hb2 (bs' := Lib.byteCells (l ++ [c])) (by rw [Lib.byteCells_append, List.length_append, Lib.byteCells_length]; exact hown') (by decide)), ?_⟩, ?_⟩
  · have := hB2.size; simp at *; omega
  · refine ⟨hB2.setCell (p := ⟨b, 1, none⟩) hB _, ?_⟩
    refine Froz.setCell ?_ hb2 _
    exact (hfz1.alloc (.cells #[.int .u8 c.toNat] 5)).grown (hown.alloc _) fun k hk hk2 => hgrow.block k hk fun e => hk2 e.symm
set_option maxHeartbeats 1000000 in
set_option maxRecDepth 100000 in
theorem writeString_any {B b : Nat} {l : List UInt8} {w : World} (h : Bld w B b l) (s : List UInt8) (hlen : l.length + s.length ≤ 140737488355328) :
    Calls Tryz.prog 76 #[.pointer (some ⟨b, 0, none⟩), .string (strB s)] w fun e w' => (∃ v, e = .returned v) ∧ Bld w' B b (l ++ s) ∧ Below B w w' ∧ Froz w w' := by
  obtain ⟨i0, hi, hz0, hz1, hz2⟩ := info_byte
  have hBw := h.2
  go_enter Tryz.func76, Tryz.ntmps76
  go_wp2_with (go_at_call 106; refine (check_any B b _ _ h.1).mono ?_)
  rintro e w1 ⟨rfl, h1, hb1, hfz1⟩
  obtain ⟨hB, v, hbk, hown, hne⟩ := h1
  have c0 : w1.cell? ⟨b, 0, none⟩ = some (.pointer (some ⟨b, 0, none⟩)) := by rw [Lib.cell_of_heap hbk]; rfl
  have c1 : w1.cell? ⟨b, 1, none⟩ = some v := by rw [Lib.cell_of_heap hbk]; rfl
  have hl0 : (Lib.byteCells l).length = l.length := Lib.byteCells_length l
  have hs0 : (strB s).size = s.length := rfl
  go_wp2_with (at_builtin; refine Lib.wpList_append_own_string _ rfl _ _ 68 9 rfl B 5 i0 Tryz.underlying68 Tryz.underlying9 hi hz0 hz1 hz2 _ _ _ rfl hown (strB s) rfl ?c3 ?c4 ?c5 ?_)
  case c3 => unfold maxLen; omega
  case c4 => omega
  case c5 => have := hb1.size; omega
  intro v' w2 hown' hgrow _
  have hlt : b < w1.heap.size := (Array.getElem?_eq_some_iff.1 hbk).1
  have hb2 : w2.heap[b]? = some (.cells #[.pointer (some ⟨b, 0, none⟩), v] 79 (0, 0)) := by
    rw [hgrow.block b hlt (fun e => hne e.symm)]
    exact hbk
  have d0 : w2.cell? ⟨b, 0, none⟩ = some (.pointer (some ⟨b, 0, none⟩)) := by rw [Lib.cell_of_heap hb2]; rfl
  have d1 : w2.cell? ⟨b, 1, none⟩ = some v := by rw [Lib.cell_of_heap hb2]; rfl
  have f1 : w2.frozen? ⟨b, 1, none⟩ = false := Lib.frozen_of_heap hb2 1
  obtain ⟨ao, n', cap, rfl⟩ : ∃ ao n' cap, v' = .slice ao n' cap := by
    rcases hown'.2 with ⟨hv, _⟩ | ⟨g, cap, cur, hv, _⟩
    · exact ⟨_, _, _, hv⟩
    · exact ⟨_, _, _, hv⟩
  go_wp2
  go_ret2
  have hB2 := hb1.grown hgrow (by have := hb1.size; omega) (fun k hk => (hown.lt k hk).1)
  refine ⟨⟨_, rfl⟩, ⟨.inr (Lib.BuilderAt.put (T := 79) (e := 5) hB hb2 (bs' := Lib.byteCells (l ++ s)) (by rw [Lib.byteCells_append, List.length_append]; simpa [Lib.strCells_eq, strB, Lib.byteCells_length] using hown') (by decide)), ?_⟩, ?_⟩
  · have := hB2.size; simp at *; omega
  · refine ⟨hB2.setCell (p := ⟨b, 1, none⟩) hB _, ?_⟩
    refine Froz.setCell ?_ hb2 _
    exact hfz1.grown hown fun k hk hk2 => hgrow.block k hk fun e => hk2 e.symm
theorem string_of {B b : Nat} {l : List UInt8} {w : World} (h : Bld w B b l) : Calls Tryz.prog 77 #[.pointer (some ⟨b, 0, none⟩)] w fun e w' => e = .returned (.string (strB l)) ∧ Below B w w' := Tryz.Builder_String_any B b l w h.1 h.2
theorem Bld.new (w : World) : Bld (w.alloc (.cells #[.pointer none, .slice none 0 0] 79)) w.heap.size w.heap.size [] := ⟨Lib.fresh_isBuilder 79 5 w, by simp⟩
end Go.Proofs.YtnkaegdnjfpliaaGreatDoor
