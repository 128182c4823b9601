/- BookPlay: the law's put. Printed by gen_play.py. -/
import Derived.Test.YtfpmdagchbbkcaaCutsM
namespace Go.Proofs.Ytfpmdagchbbkcaa
open Go.RowKit

/-- The model in memory. -/
def ModelAt (w : World) (Mb : Nat) (sure may : List UInt8) (ed : Int) (dead op : Bool) : Prop :=
  w.heap[Mb]? = some (.cells #[.string (strB sure), .string (strB may), .int .i64 ed, .bool dead, .bool op] 65 (0, 0))
theorem ModelAt.ne {R : Nat → Prop} {w0 w : World} {a b Mb : Nat} {d : DM} {n : Int} {l sure may : List UInt8} {ed : Int} {dead dead' op : Bool} (h : ModelAt w Mb sure may ed dead' op) (hb : Bk R w0 w a b d n l dead) : Mb ≠ b := by
  rintro rfl
  obtain ⟨v, hv⟩ := hb.lt
  unfold ModelAt at h
  rw [hv] at h
  simp only [Option.some.injEq, Obj.cells.injEq] at h
  exact absurd h.2.1 (by decide)
theorem ModelAt.lt {w : World} {Mb : Nat} {sure may : List UInt8} {ed : Int} {dead op : Bool} (h : ModelAt w Mb sure may ed dead op) : Mb < w.heap.size := (Array.getElem?_eq_some_iff.1 h).1
theorem ModelAt.below {w w' : World} {Mb : Nat} {sure may : List UInt8} {ed : Int} {dead op : Bool} (h : ModelAt w Mb sure may ed dead op) (g : Below w.heap.size w w') : ModelAt w' Mb sure may ed dead op := belowBlk g h.lt h
theorem ModelAt.cells {w : World} {Mb : Nat} {sure may : List UInt8} {ed : Int} {dead op : Bool} (h : ModelAt w Mb sure may ed dead op) :
    w.cell? ⟨Mb, 0, none⟩ = some (.string (strB sure)) ∧ w.cell? ⟨Mb, 1, none⟩ = some (.string (strB may)) ∧ w.cell? ⟨Mb, 2, none⟩ = some (.int .i64 ed) ∧ w.cell? ⟨Mb, 3, none⟩ = some (.bool dead) ∧ w.cell? ⟨Mb, 4, none⟩ = some (.bool op) ∧ ∀ o, w.frozen? ⟨Mb, o, none⟩ = false :=
  ⟨cellOf h rfl, cellOf h rfl, cellOf h rfl, cellOf h rfl, cellOf h rfl, fun o => freeOf h⟩

section
variable {R : Nat → Prop} {w0 w w' : World} {a b : Nat} {d : DM} {n : Int} {l : List UInt8}
theorem Bk.put_dead (h : Bk R w0 w a b d n l true) (vb : Value) : Calls Try.prog 18 #[.pointer (some ⟨b, 0, none⟩), vb] w fun e w' => e = .returned (.int .i64 311) ∧ Bk R w0 w' a b d n l true ∧ Below w.heap.size w w' := by
  have h' := h
  obtain ⟨⟨F, v, h1, h2, h3, h4, h5, h6, h7⟩, h8⟩ := h
  refine (Go.Proofs.Ytfpmdagchbbkcaa.put_dead h5 vb).mono ?_
  rintro e w' ⟨rfl, hb⟩
  exact ⟨rfl, h'.grow hb, hb⟩
theorem Bk.put_big (h : Bk R w0 w a b d n l false) (h4 : 4 ≤ d.size) (a1 : Option Addr) (n1 c1 : Nat) (hbig : tooBig d n n1 = true) : Calls Try.prog 18 #[.pointer (some ⟨b, 0, none⟩), .slice a1 n1 c1] w fun e w' => e = .returned (.int .i64 3) ∧ Bk R w0 w' a b d n l false ∧ Below w.heap.size w w' := by
  have h' := h
  obtain ⟨⟨F, v, h1, h2, h3, hb4, h5, h6, h7⟩, h8⟩ := h
  refine (Go.Proofs.Ytfpmdagchbbkcaa.put_big h1 h4 h5 a1 n1 c1 hbig).mono ?_
  rintro e w' ⟨rfl, hb⟩
  exact ⟨rfl, h'.grow hb, hb⟩
/-- What turns the model alone leaves the book. -/
theorem Bk.model {Mb : Nat} {sure may : List UInt8} {ed : Int} {dead dead' op : Bool} (h : Bk R w0 w a b d n l dead) (hR : ∀ x, R x → x ≠ Mb) (hM : ModelAt w Mb sure may ed dead' op) (hM0 : w0.heap.size ≤ Mb) (g : Touch (fun x => x = Mb) w w') : Bk R w0 w' a b d n l dead := by
  have hne := hM.ne h
  obtain ⟨⟨F, v, h1, h2, h3, hb4, h5, h6, h7⟩, h8⟩ := h
  refine ⟨⟨F, v, h1.touch g (fun x hx e => hR x (h2 x hx).1.1 e), fun x hx => ⟨(h2 x hx).1, Nat.lt_of_lt_of_le (h2 x hx).2 g.size⟩, h3, hb4, g.heap h5 (fun e => hne e.symm), h6.touch g (fun g' hg e => ?_), h7⟩, g.below h8 (fun x hx e => by have e' : x = Mb := e; omega) h8.size⟩
  have e' : g' = Mb := e
  subst e'
  rcases h6.2 with ⟨rfl, _⟩ | ⟨g2, cap, cur, rfl, _, hh, _⟩
  · cases hg
  · cases hg
    unfold ModelAt at hM
    rw [hM] at hh
    simp only [Option.some.injEq, Obj.cells.injEq] at hh
    exact absurd hh.2.1 (by decide)
end
theorem run_store_bool {w : World} {ad : Addr} {x : Bool} {u : Value} (hc : w.cell? ad = some u) (hf : w.frozen? ad = false) : (storeVar 4 ad (.bool x)).run Try.prog w = .ok () (w.setCell ad (.bool x)) := by
  simp [storeVar, go_sem, hc, hf]
theorem run_store_str {w : World} {ad : Addr} {x : ByteArray} {u : Value} (hc : w.cell? ad = some u) (hf : w.frozen? ad = false) : (storeVar 9 ad (.string x)).run Try.prog w = .ok () (w.setCell ad (.string x)) := by
  simp [storeVar, go_sem, hc, hf]

/-- What a Put makes of the model. -/
def PutM (d : DM) (N : Nat) (sure may ls : List UInt8) (dead op : Bool) (d' : DM) (N' : Nat) (sure' may' : List UInt8) (dead' op' : Bool) : Prop :=
  (d' = d ∧ N' = N ∧ sure' = sure ∧ may' = may ∧ dead' = dead ∧ op' = op) ∨
  (dead = false ∧ ls.length ≤ hf d * 512 ∧ (putE d N ls).2 = false ∧ d' = (putE d N ls).1 ∧ N' = N + 1 ∧ sure' = ls ∧ may' = may ∧ dead' = false ∧ op' = op) ∨
  (dead = false ∧ ls.length ≤ hf d * 512 ∧ (putE d N ls).2 = true ∧ d' = (putE d N ls).1 ∧ N' = N ∧ sure' = sure ∧ may' = ls ∧ dead' = true ∧ op' = true)
def PutPost (w0 : World) (a b Mb : Nat) (d : DM) (N : Nat) (sure may ls : List UInt8) (dead op : Bool) (e : Ending) (w' : World) : Prop :=
  e = .returned (.bool true) ∧ ∃ d' N' sure' may' dead' op', PutM d N sure may ls dead op d' N' sure' may' dead' op' ∧ Bk (fun x => x ≠ Mb) w0 w' a b d' (N' : Int) sure' dead' ∧ ModelAt w' Mb sure' may' (N' : Int) dead' op'

set_option maxRecDepth 100000 in
set_option maxHeartbeats 4000000 in
theorem put_law {w0 w : World} {a b Mb : Nat} {d : DM} {N : Nat} {sure may : List UInt8} {dead op : Bool} (hbk : Bk (fun x => x ≠ Mb) w0 w a b d (N : Int) sure dead) (hM : ModelAt w Mb sure may (N : Int) dead op) (hM0 : w0.heap.size ≤ Mb) (h4 : 4 ≤ d.size) (hN : N ≤ 1000) (hst : d.steps ≤ 1000)
    (kd num : Int) (ls : List UInt8) (q : Option Addr) (m c : Nat) (hls : ls.length ≤ 3000) :
    Calls Try.prog 27 #[.pointer (some ⟨b, 0, none⟩), .pointer (some ⟨Mb, 0, none⟩), .agg (stepV kd num ls q m c)] w (PutPost w0 a b Mb d N sure may ls dead op) := by
  have hb1 : Below w.heap.size w (w.alloc (.cells #[.int .i64 kd, .int .i64 num, .string (strB ls), .slice q m c] 25)) := (Below.refl _ _).alloc (Nat.le_refl _) _
  have hin1 : (w.alloc (.cells #[.int .i64 kd, .int .i64 num, .string (strB ls), .slice q m c] 25)).cell? ⟨w.heap.size, 2, none⟩ = some (.string (strB ls)) := cellOf (heap_alloc_new _ _) rfl
  have hsz1 : (w.alloc (.cells #[.int .i64 kd, .int .i64 num, .string (strB ls), .slice q m c] 25)).heap.size = w.heap.size + 1 := by simp
  have hlt := hM.lt
  have hne := hM.ne hbk
  have hbk1 := (hbk.mono (R' := fun x => x ≠ Mb ∧ x ≠ w.heap.size) (fun x hx h => ⟨h, Nat.ne_of_lt hx⟩)).grow hb1
  have hM1 := hM.below hb1
  have HSt := Lib.hid (hbk1.state h4)
  have hmost := hbk.ok.most
  have hhf : (hf d : Int) ≤ 65536 := by unfold hf; omega
  have hss : (strB ls).size = ls.length := strB_size _
  have HB := Lib.hid (And.intro hbk1 (And.intro hM1 (And.intro hin1 hsz1)))
  clear hbk hM hbk1 hM1 hin1 hb1 hsz1
  unfold stepV
  go_enter Try.func27, Try.ntmps27
  go_wp2_with (first
    | (go_at_call 22; refine HSt.out.mono ?_; rintro e w2 ⟨rfl, hbk2, hb2⟩
       obtain ⟨_, hM1, hin1, hsz1⟩ := HB.out
       have hin2 := belowCell hb2 (ltOf hin1) hin1
       have hM2 := hM1.below hb2
       have HDk := Lib.hid hbk2.disk
       have HSteps := Lib.hid hbk2.dk.steps
       obtain ⟨cc, W3, hcv, hbW3, hrdW3⟩ := cv_strB w2 ls (by omega)
       have HB2 := Lib.hid (And.intro hbk2 (And.intro hM2 (And.intro hbW3 (And.intro hrdW3 (And.intro hb2.size hin2)))))
       clear hbk2 hM2 hbW3 hrdW3 hM1 hin1 hb2 HSt)
    | (go_at_call 23; refine HDk.out.mono ?_; rintro e w' ⟨rfl, rfl⟩)
    | (go_at_call 25; refine HSteps.out.mono ?_; rintro e w' ⟨rfl, rfl⟩))
  obtain ⟨hbk2, hM2, hbW3, hrdW3, hs2, hin2'⟩ := HB2.out
  obtain ⟨_, _, _, hsz1⟩ := HB.out
  clear HSteps HDk hcv hin2
  have hbk3 := hbk2.grow hbW3
  have hM3 := hM2.below hbW3
  have hin3 := belowCell hbW3 (ltOf hin2') hin2'
  have HR : Hid (∀ w5 d' N' l' dead', Bk (fun x => x ≠ Mb ∧ x ≠ w.heap.size) w0 w5 a b d' N' l' dead' → Bk (fun x => x ≠ Mb) w0 w5 a b d' N' l' dead') := Lib.hid fun w5 d' N' l' dead' h => h.mono (fun x _ h => h.1)
  have same : ∀ w5, Bk (fun x => x ≠ Mb ∧ x ≠ w.heap.size) w0 w5 a b d (N : Int) sure dead → ModelAt w5 Mb sure may (N : Int) dead op → PutPost w0 a b Mb d N sure may ls dead op (.returned (.bool true)) w5 := fun w5 h1 h2 => ⟨rfl, d, N, sure, may, dead, op, .inl ⟨rfl, rfl, rfl, rfl, rfl, rfl⟩, HR.out _ _ _ _ _ h1, h2⟩
  have Hsame := Lib.hid same
  clear same HB HB2
  cases dead with
  | true =>
    refine (hbk3.put_dead _).mono ?_
    rintro e w5 ⟨rfl, hbk5, hb5⟩
    have hM5 := hM3.below hb5
    obtain ⟨_, _, _, k3, _⟩ := hM5.cells
    have HDk2 := Lib.hid hbk5.disk
    have HSteps2 := Lib.hid hbk5.dk.steps
    have Hfin := Lib.hid (Hsame.out w5 hbk5 hM5)
    clear hbk5 hM5 hb5 hbk3 hM3 hbk2 hM2 hbW3 hrdW3 Hsame hin3 hin2'
    go_wp2_with (first
      | (go_at_call 23; refine HDk2.out.mono ?_; rintro e w' ⟨rfl, rfl⟩)
      | (go_at_call 25; refine HSteps2.out.mono ?_; rintro e w' ⟨rfl, rfl⟩))
    go_ret
    exact Hfin.out
  | false =>
    by_cases hbig : hf d * 512 < ls.length
    · have cb : decide ((ls.length : Int) > (hf d : Int) * 512) = true := by simp; omega
      refine (hbk3.put_big h4 _ _ _ (by unfold tooBig; rw [Bool.or_eq_true]; left; simp; omega)).mono ?_
      rintro e w5 ⟨rfl, hbk5, hb5⟩
      have hM5 := hM3.below hb5
      obtain ⟨_, _, _, k3, _⟩ := hM5.cells
      have HDk2 := Lib.hid hbk5.disk
      have HSteps2 := Lib.hid hbk5.dk.steps
      have hin5 : w5.cell? ⟨w.heap.size, 2, none⟩ = some (.string (strB ls)) := belowCell hb5 (ltOf hin3) hin3
      have Hfin := Lib.hid (Hsame.out w5 hbk5 hM5)
      clear hbk5 hM5 hb5 hbk3 hM3 hbk2 hM2 hbW3 hrdW3 Hsame hbig hin3 hin2'
      go_wp2_with (first
      | (go_at_call 23; refine HDk2.out.mono ?_; rintro e w' ⟨rfl, rfl⟩)
      | (go_at_call 25; refine HSteps2.out.mono ?_; rintro e w' ⟨rfl, rfl⟩))
      go_ret
      exact Hfin.out
    · have cb : decide ((ls.length : Int) > (hf d : Int) * 512) = false := by simp; omega
      refine (hbk2.put (fun x hx => ⟨by omega, by omega⟩) h4 (by omega) (some ⟨w2.heap.size, 0, none⟩) ls.length cc ls W3 hbW3 hrdW3 (fun g hg => by cases hg; exact Nat.le_refl _) (by omega) (by omega)).mono ?_
      rintro e w5 ⟨hres, hst5⟩
      have hM5 : ModelAt w5 Mb sure may (N : Int) false op := (hst5.2 Mb (fun h => h.1 rfl) hne (by have := hbW3.size; omega)).trans hM3
      have hin5 : w5.cell? ⟨w.heap.size, 2, none⟩ = some (.string (strB ls)) := by
        have hb : w.heap.size ≠ b := by
          obtain ⟨v, hv⟩ := hbk3.lt
          obtain ⟨⟨F, v', h1, h2, h3, hb4, h5, h6, h7⟩, h8⟩ := hbk2
          intro e
          have := cellOf (o := 2) (by rw [← e] at hv; exact hv) (rfl : _ = some (Value.bool false))
          rw [hin3] at this
          cases this
        exact (World.cell?_of_block (w := W3) (a := ⟨w.heap.size, 2, none⟩) (hst5.2 w.heap.size (fun h => h.2 rfl) hb (by have := hbW3.size; omega))).trans hin3
      have hfit : ls.length ≤ hf d * 512 := by omega
      rcases hres with ⟨rfl, hE, hbk5⟩ | ⟨rfl, hE, hbk5⟩
      · obtain ⟨k0, k1, k2, k3, k4, f0⟩ := hM5.cells
        have f00 := f0 0
        have f02 := f0 2
        have hstp := putE_steps hE
        have hM6 : ModelAt (w5.setCell ⟨Mb, 0, none⟩ (.string (strB ls))) Mb ls may (N : Int) false op := heap_setCell_same w5 Mb 0 _ _ (Value.string (strB ls)) hM5
        have hM7 : ModelAt ((w5.setCell ⟨Mb, 0, none⟩ (.string (strB ls))).setCell ⟨Mb, 2, none⟩ (.int .i64 ((N : Int) + 1))) Mb ls may ((N + 1 : Nat) : Int) false op := heap_setCell_same (w5.setCell ⟨Mb, 0, none⟩ (.string (strB ls))) Mb 2 _ _ (Value.int .i64 ((N : Int) + 1)) hM6
        have hT7 : Touch (fun x => x = Mb) w5 ((w5.setCell ⟨Mb, 0, none⟩ (.string (strB ls))).setCell ⟨Mb, 2, none⟩ (.int .i64 ((N : Int) + 1))) := ((Touch.refl _ _).setCell (.inl (by exact rfl)) _).setCell (.inl (by exact rfl)) _
        have hbk7 := hbk5.model (fun x h => h.1) hM5 hM0 hT7
        have HDk2 := Lib.hid hbk7.disk
        have hstq := hbk7.dk.steps
        rw [hstp] at hstq
        have e4 : ((d.steps + 4 : Nat) : Int) = (d.steps : Int) + 4 := by omega
        rw [e4] at hstq
        have HSteps2 := Lib.hid hstq
        have Hfin : Hid (PutPost w0 a b Mb d N sure may ls false op (.returned (.bool true)) _) := Lib.hid ⟨rfl, _, _, _, _, _, _, .inr (.inl ⟨rfl, hfit, hE, rfl, rfl, rfl, rfl, rfl, rfl⟩), HR.out _ _ _ _ _ hbk7, hM7⟩
        clear hbk5 hM5 hbk3 hM3 hbk2 hM2 hbW3 hrdW3 Hsame hbig hin3 hin2' hM6 hM7 hT7 hbk7 hstq hstp e4 hst5 hE f0
        go_wp2_with (first
          | (go_at_call 23; refine HDk2.out.mono ?_; rintro e w' ⟨rfl, rfl⟩)
          | (go_at_call 25; refine HSteps2.out.mono ?_; rintro e w' ⟨rfl, rfl⟩))
        go_ret
        exact Hfin.out
      · obtain ⟨k0, k1, k2, k3, k4, f0⟩ := hM5.cells
        have Hd : Hid (Bk _ w0 w5 a b (putE d N ls).1 (N : Int) sure true ∧ ModelAt w5 Mb sure may (N : Int) false op) := Lib.hid ⟨hbk5, hM5⟩
        have HE := Lib.hid hE
        clear hbk5 hM5 hbk3 hM3 hbk2 hM2 hbW3 hrdW3 Hsame hbig hin3 hin2' hst5 hE
        go_wp2
        obtain ⟨hbk5, hM5⟩ := Hd.out
        have hfa : ∀ W' : World, (Instr.fieldAt 25 (.pointer (some ⟨w.heap.size, 0, none⟩)) 2).run Try.prog W' = .ok (.pointer (some ⟨w.heap.size, 2, none⟩)) W' := by intro W'; simp [go_sem]
        have hf3 : ∀ W' : World, (Instr.fieldAt 65 (.pointer (some ⟨Mb, 0, none⟩)) 3).run Try.prog W' = .ok (.pointer (some ⟨Mb, 3, none⟩)) W' := by intro W'; simp [go_sem]
        have hf4 : ∀ W' : World, (Instr.fieldAt 65 (.pointer (some ⟨Mb, 0, none⟩)) 4).run Try.prog W' = .ok (.pointer (some ⟨Mb, 4, none⟩)) W' := by intro W'; simp [go_sem]
        have hf1 : ∀ W' : World, (Instr.fieldAt 65 (.pointer (some ⟨Mb, 0, none⟩)) 1).run Try.prog W' = .ok (.pointer (some ⟨Mb, 1, none⟩)) W' := by intro W'; simp [go_sem]
        have hM6 : ModelAt w5.drew Mb sure may (N : Int) false op := hM5
        have hne2 : w.heap.size ≠ Mb := by omega
        have hS6 : w5.drew.cell? ⟨w.heap.size, 2, none⟩ = some (.string (strB ls)) := hin5
        have hst7 := run_store_bool (x := true) hM6.cells.2.2.2.1 (hM6.cells.2.2.2.2.2 3)
        have hT7 : Touch (fun x => x = Mb) w5.drew (w5.drew.setCell ⟨Mb, 3, none⟩ (.bool true)) := (Touch.refl _ _).setCell (.inl (by exact rfl)) _
        have hM7 : ModelAt (w5.drew.setCell ⟨Mb, 3, none⟩ (.bool true)) Mb sure may (N : Int) true op := heap_setCell_same w5.drew Mb 3 _ _ (Value.bool true) hM6
        have hS7 := hT7.cell hS6 (by exact hne2)
        generalize w5.drew.setCell ⟨Mb, 3, none⟩ (.bool true) = w7 at *
        have hst8 := run_store_bool (x := true) hM7.cells.2.2.2.2.1 (hM7.cells.2.2.2.2.2 4)
        have hT8 : Touch (fun x => x = Mb) w7 (w7.setCell ⟨Mb, 4, none⟩ (.bool true)) := (Touch.refl _ _).setCell (.inl (by exact rfl)) _
        have hM8 : ModelAt (w7.setCell ⟨Mb, 4, none⟩ (.bool true)) Mb sure may (N : Int) true true := heap_setCell_same w7 Mb 4 _ _ (Value.bool true) hM7
        have hS8 := hT8.cell hS7 (by exact hne2)
        generalize w7.setCell ⟨Mb, 4, none⟩ (.bool true) = w8 at *
        have hst9 := run_store_str (x := strB ls) hM8.cells.2.1 (hM8.cells.2.2.2.2.2 1)
        have hT9 : Touch (fun x => x = Mb) w8 (w8.setCell ⟨Mb, 1, none⟩ (.string (strB ls))) := (Touch.refl _ _).setCell (.inl (by exact rfl)) _
        have hM9 : ModelAt (w8.setCell ⟨Mb, 1, none⟩ (.string (strB ls))) Mb sure ls (N : Int) true true := heap_setCell_same w8 Mb 1 _ _ (Value.string (strB ls)) hM8
        generalize w8.setCell ⟨Mb, 1, none⟩ (.string (strB ls)) = w9 at *
        have hT : Touch (fun x => x = Mb) w5 w9 := (Touch.refl _ _).drew.trans ((hT7.trans hT8).trans hT9)
        have Hfin : Hid (PutPost w0 a b Mb d N sure may ls false op (.returned (.bool true)) w9) := Lib.hid ⟨rfl, _, _, _, _, _, _, .inr (.inr ⟨rfl, hfit, HE.out, rfl, rfl, rfl, rfl, rfl, rfl⟩), HR.out _ _ _ _ _ (hbk5.model (fun x h => h.1) hM5 hM0 hT), hM9⟩
        refine plain_region_draws (fun W => W.cell? ⟨w.heap.size, 2, none⟩ = some (.string (strB ls))) (by kernel_rfl) hS6 (fun hS => ?_)
        refine take 0 55 (v := .pointer (some ⟨Mb, 0, none⟩)) rfl rfl (by kernel_rfl) (by kernel_rfl) (by kernel_rfl) rfl (fun W hW => exec_move rfl rfl) (by assumption) ?_
        simp only [Act.put, List.setIfInBounds_toArray, List.set_cons_zero, List.set_cons_succ]
        refine take 1 56 (v := .pointer (some ⟨Mb, 0, none⟩)) rfl rfl (by kernel_rfl) (by kernel_rfl) (by kernel_rfl) rfl (fun W hW => exec_move rfl rfl) (by assumption) ?_
        simp only [Act.put, List.setIfInBounds_toArray, List.set_cons_zero, List.set_cons_succ]
        refine take 2 57 (v := .pointer (some ⟨Mb, 0, none⟩)) rfl rfl (by kernel_rfl) (by kernel_rfl) (by kernel_rfl) rfl (fun W hW => exec_move rfl rfl) (by assumption) ?_
        simp only [Act.put, List.setIfInBounds_toArray, List.set_cons_zero, List.set_cons_succ]
        refine take 3 58 (v := .pointer (some ⟨w.heap.size, 2, none⟩)) rfl rfl (by kernel_rfl) (by kernel_rfl) (by kernel_rfl) rfl (fun W hW => exec_fieldAddr rfl rfl (hfa W)) (by assumption) ?_
        simp only [Act.put, List.setIfInBounds_toArray, List.set_cons_zero, List.set_cons_succ]
        refine take 4 59 (v := .string (strB ls)) rfl rfl (by kernel_rfl) (by kernel_rfl) (by kernel_rfl) rfl (fun W hW => exec_load rfl rfl (run_load1 (w := W) Try.underlying9 rfl hW)) (by assumption) ?_
        simp only [Act.put, List.setIfInBounds_toArray, List.set_cons_zero, List.set_cons_succ]
        refine take 5 60 (v := .pointer (some ⟨Mb, 0, none⟩)) rfl rfl (by kernel_rfl) (by kernel_rfl) (by kernel_rfl) rfl (fun W hW => rfl) (by assumption) ?_
        simp only [Act.put, List.setIfInBounds_toArray, List.set_cons_zero, List.set_cons_succ]
        refine take 6 61 (v := .pointer (some ⟨Mb, 3, none⟩)) rfl rfl (by kernel_rfl) (by kernel_rfl) (by kernel_rfl) rfl (fun W hW => exec_fieldAddr rfl rfl (hf3 W)) (by assumption) ?_
        simp only [Act.put, List.setIfInBounds_toArray, List.set_cons_zero, List.set_cons_succ]
        refine onlySkip 7 rfl rfl (by kernel_rfl) rfl (exec_store rfl rfl rfl hst7) (.inr hS7) ?_
        refine take 8 62 (v := .pointer (some ⟨Mb, 0, none⟩)) rfl rfl (by kernel_rfl) (by kernel_rfl) (by kernel_rfl) rfl (fun W hW => rfl) (by assumption) ?_
        simp only [Act.put, List.setIfInBounds_toArray, List.set_cons_zero, List.set_cons_succ]
        refine take 9 63 (v := .pointer (some ⟨Mb, 4, none⟩)) rfl rfl (by kernel_rfl) (by kernel_rfl) (by kernel_rfl) rfl (fun W hW => exec_fieldAddr rfl rfl (hf4 W)) (by assumption) ?_
        simp only [Act.put, List.setIfInBounds_toArray, List.set_cons_zero, List.set_cons_succ]
        refine onlySkip 10 rfl rfl (by kernel_rfl) rfl (exec_store rfl rfl rfl hst8) (.inr hS8) ?_
        refine take 11 64 (v := .pointer (some ⟨Mb, 0, none⟩)) rfl rfl (by kernel_rfl) (by kernel_rfl) (by kernel_rfl) rfl (fun W hW => rfl) (by assumption) ?_
        simp only [Act.put, List.setIfInBounds_toArray, List.set_cons_zero, List.set_cons_succ]
        refine take 12 65 (v := .pointer (some ⟨Mb, 1, none⟩)) rfl rfl (by kernel_rfl) (by kernel_rfl) (by kernel_rfl) rfl (fun W hW => exec_fieldAddr rfl rfl (hf1 W)) (by assumption) ?_
        simp only [Act.put, List.setIfInBounds_toArray, List.set_cons_zero, List.set_cons_succ]
        refine onlySkip 13 rfl rfl (by kernel_rfl) rfl (exec_store rfl rfl rfl hst9) (.inl (by kernel_rfl)) ?_
        refine done (by kernel_rfl) ?_ _
        clear hS hS6 hS7 hS8 hst7 hst8 hst9 hT7 hT8 hT9 hT hM6 hM7 hM8 hM9 hfa hf3 hf4 hf1 hbk5 hM5 Hd f0
        go_wp2
        go_ret
        exact Hfin.out
end Go.Proofs.Ytfpmdagchbbkcaa
