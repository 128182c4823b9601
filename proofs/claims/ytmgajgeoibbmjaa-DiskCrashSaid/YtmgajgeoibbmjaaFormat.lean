/- The book: Format. -/
import Derived.Test.YtmgajgeoibbmjaaHalf
namespace Go.Proofs.Ytmgajgeoibbmjaa
open Go.RowKit

section
variable {P : Program} {w w' : World} {a : Act} {o : Oper} {v : Value}
theorem exec_makeSlice {t : TypeId} {x y : Operand} {vx vy : Value} (ho : o.op = .makeSlice t x y) (hx : a.eval x = vx) (hy : a.eval y = vy) (hr : (Instr.makeSlice t vx vy).run P w = .ok v w') : (execOp a.eval o).run P w = .ok (.value v) w' := by
  unfold execOp; rw [ho]; simp only [hx, hy, Sem.run_bind, hr, Result.andThen_ok, Sem.run_pure]
theorem exec_assign {x : Operand} (ho : o.op = .assign x) (hx : a.eval x = v) : (execOp a.eval o).run P w = .ok (.value v) w := by
  unfold execOp; rw [ho]; simp only [hx, Sem.run_pure]
end

theorem Disk.cap {w : World} {F : Nat → Prop} {a : Nat} {d : DM} (h : Disk w F a d) : Disk w (fun b => F b ∧ b < w.heap.size) a d := by
  obtain ⟨ok, L, S, C, X, mc, h⟩ := h
  refine ⟨ok, L, S, C, X, mc, h.cells, h.nodup, fun b hb => ⟨h.foot b hb, ?_⟩, h.lasting, h.seen, h.fails, h.since, ?_, h.sinceAt.apart⟩
  · simp only [List.mem_cons, List.not_mem_nil, or_false] at hb
    rcases hb with rfl | rfl | rfl | rfl | rfl
    · exact h.lt
    · exact h.lasting.lt
    · exact h.seen.lt
    · exact h.since.lt
    · exact h.fails.lt
  · intro k
    rcases h.sinceAt.one k with h1 | ⟨v, l, h1, h2, h3, h4⟩
    · exact .inl h1
    · exact .inr ⟨v, l, h1, h2, h3, fun g hg => ⟨⟨(h4 g hg).1, (h3.lt g hg).2⟩, (h4 g hg).2⟩⟩

def zeros (n : Nat) : List UInt8 := List.replicate n 0
/-- A fresh slice of noughts. -/
theorem make_zeros (n : Nat) (hn : n ≤ 16777216) (w : World) :
    ∃ w', (Instr.makeSlice 35 (.int .i64 (n : Int)) (.int .i64 (n : Int))).run Try.prog w = .ok (.slice (some ⟨w.heap.size, 0, none⟩) n n) w' ∧ OwnB w' (.slice (some ⟨w.heap.size, 0, none⟩) n n) (zeros n) ∧ Below w.heap.size w w' := by
  obtain ⟨i0, h1, h2, h3, h4⟩ := info_u8
  obtain ⟨w', hr, hown, hg⟩ := run_makeSlice_full (P := Try.prog) (w := w) 0 35 5 i0 (.int .u8 0) 1 Try.underlying35 h1 h2 h3 .i64 .i64 n (by omega) (by rw [h4]; omega) (by unfold maxLen; omega) (Nat.zero_le _)
  refine ⟨w', hr, ?_, ⟨hg.os, hg.tape, hg.output, hg.size, fun b hb => hg.block b hb (by simp)⟩⟩
  unfold OwnB
  have e : (madeCells (Value.int .u8 0).cells (n * 1)).toList = bcells (zeros n) := by
    rw [Nat.mul_one]
    show (madeCells #[Value.int .u8 0] n).toList = _
    rw [toList_madeCells_one]; simp [bcells, zeros]
  rw [e] at hown
  simpa [zeros] using hown

def DM.write (d : DM) (at_ : Nat) (l : List UInt8) (m : Nat) : DM × Int := (d.stepped.wrote d.failing at_ l m, if d.failing then 300 else 0)
def DM.flush (d : DM) : DM × Int := (if d.failing then d.stepped else d.stepped.flushed, if d.failing then 300 else 0)
def fmtB : List UInt8 := zeros 512 ++ headB 1 0
theorem fmtB_length : fmtB.length = 512 * 2 := by rw [fmtB, List.length_append, headB_length, zeros, List.length_replicate]
def DM.format (d : DM) : DM × Int := if d.failing then ((d.write 0 fmtB 2).1, 300) else (d.write 0 fmtB 2).1.flush

/-- A disk behind calls: its blocks lie below B, and are of F or new; what was left alone. -/
structure Then (w w' : World) (F : Nat → Prop) (B a : Nat) (d : DM) : Prop where
  disk : Disk w' (fun b => (F b ∨ w.heap.size ≤ b) ∧ b < B) a d
  touch : Touch F w w'
  le : B ≤ w'.heap.size
theorem Then.self {w : World} {F : Nat → Prop} {a : Nat} {d : DM} (h : Disk w F a d) : Then w w F w.heap.size a d := ⟨h.cap.mono fun _ h => ⟨.inl h.1, h.2⟩, Touch.refl _ _, Nat.le_refl _⟩
theorem Then.below {w w1 w2 : World} {F : Nat → Prop} {B a : Nat} {d : DM} (h : Then w w1 F B a d) (g : Below w1.heap.size w1 w2) : Then w w2 F B a d := ⟨h.disk.below g, h.touch.grow g, Nat.le_trans h.le g.size⟩
theorem Then.step {w w1 w2 : World} {F : Nat → Prop} {B a : Nat} {d d' : DM} (h : Then w w1 F B a d) (hd : Disk w2 (fun b => ((F b ∨ w.heap.size ≤ b) ∧ b < B) ∨ w1.heap.size ≤ b) a d') (g : Touch (fun b => (F b ∨ w.heap.size ≤ b) ∧ b < B) w1 w2) : Then w w2 F w2.heap.size a d' := by
  refine ⟨hd.cap.mono fun b hb => ⟨?_, hb.2⟩, h.touch.step g fun b hb hs => ?_, Nat.le_refl _⟩
  · have := h.touch.size
    rcases hb.1 with hb | hb
    · exact hb.1
    · exact .inr (by omega)
  · rcases hs.1 with h | h
    · exact h
    · omega

/-- A write to a disk behind calls. -/
theorem then_write {w w1 : World} {F : Nat → Prop} {B a : Nat} {d : DM} (h : Then w w1 F B a d) (hst : d.steps < 1073741824) (sa : Option Addr) (sn sc : Nat) (l : List UInt8) (hrd : RdB w1 (.slice sa sn sc) l) (hoff : ∀ g, (Value.slice sa sn sc).ownBlock = some g → B ≤ g)
    (at_ m : Nat) (hl : l.length = 512 * m) (hm : at_ + m ≤ d.size) :
    Calls Try.prog 16 #[.pointer (some ⟨a, 0, none⟩), .int .i64 (at_ : Int), .slice sa sn sc] w1 fun e w' =>
      e = .returned (.int .i64 (d.write at_ l m).2) ∧ Then w w' F w'.heap.size a (d.write at_ l m).1 := by
  refine (write_ok h.disk (fun b hb => Nat.lt_of_lt_of_le hb.2 h.le) hst sa sn sc l hrd (fun _ g hg hF => by have := hoff g hg; have := hF.2; omega) at_ m hl hm).mono ?_
  rintro e w' ⟨rfl, hd, hT⟩
  exact ⟨rfl, h.step hd hT⟩
theorem then_flush {w w1 : World} {F : Nat → Prop} {B a : Nat} {d : DM} (h : Then w w1 F B a d) (hst : d.steps < 1073741824) :
    Calls Try.prog 19 #[.pointer (some ⟨a, 0, none⟩)] w1 fun e w' => e = .returned (.int .i64 d.flush.2) ∧ Then w w' F w'.heap.size a d.flush.1 := by
  refine (flush_ok h.disk hst).mono ?_
  rintro e w' ⟨rfl, hd, hT⟩
  exact ⟨rfl, h.step hd hT⟩

/-! ### Format -/
theorem fmt_write {w w1 : World} {F : Nat → Prop} {a : Nat} {d : DM} (hd : Disk w F a d) (h4 : 4 ≤ d.size) (hst : d.steps < 1073741824) (vA vB : Value) (hA : OwnB w1 vA (zeros 512)) (hB : OwnB w1 vB (headB 1 0)) (hb : Below w.heap.size w w1) (hAo : ∀ g, vA.ownBlock = some g → w.heap.size ≤ g) :
    ∃ v' w2, (Builtin.append_ #[35, 35] 35 #[vA, vB]).run Try.prog w1 = .ok v' w2 ∧
      Calls Try.prog 16 #[.pointer (some ⟨a, 0, none⟩), .int .i64 0, v'] w2 fun e w' => e = .returned (.int .i64 (d.write 0 fmtB 2).2) ∧ Then w w' F w'.heap.size a (d.write 0 fmtB 2).1 := by
  obtain ⟨aB, cB, eB⟩ := hB.shape
  subst eB
  obtain ⟨v', w2, q1, q2, q3, q4, q5⟩ := append_rd hA aB _ cB (headB 1 0) hB.rd (by rw [headB_length, zeros, List.length_replicate]; omega) 35
  obtain ⟨sa, sc, es⟩ := q2.shape
  subst es
  have hb2 : Below w.heap.size w w2 := q3.below hb (fun b hb e => by have := hAo _ e; omega) hb.size
  have hT : Then w w2 F w.heap.size a d := (Then.self hd).below hb2
  refine ⟨_, w2, q1, then_write hT hst sa _ sc fmtB q2.rd (fun g hg => ?_) 0 2 fmtB_length (by omega)⟩
  rcases q4 with e | e
  · exact hAo g (by rw [← e]; exact hg)
  · rw [e] at hg; have := hb.size; simp at hg; omega

theorem DM.write_size (d : DM) (at_ : Nat) (l : List UInt8) (m : Nat) : (d.write at_ l m).1.size = d.size := rfl
theorem DM.write_steps (d : DM) (at_ : Nat) (l : List UInt8) (m : Nat) : (d.write at_ l m).1.steps = d.steps + 1 := rfl
theorem DM.flush_size (d : DM) : d.flush.1.size = d.size := by unfold DM.flush; cases d.failing <;> rfl
theorem DM.flush_steps (d : DM) : d.flush.1.steps = d.steps + 1 := by unfold DM.flush; cases d.failing <;> rfl

end Go.Proofs.Ytmgajgeoibbmjaa
