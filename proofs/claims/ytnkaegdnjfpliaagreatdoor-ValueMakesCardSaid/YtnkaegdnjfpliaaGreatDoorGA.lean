/- Texts that the proofs of this layer share. -/
import Derived.Test.YtnkaegdnjfpliaaGreatDoorRows
import Derived.WalkKit
import Derived.WalkSpells
import Derived.WalkLawsBesides
import Derived.RangeFuncLeaves
import Derived.RangeFuncCalls
import Derived.RangeFuncNested
import Derived.OwnWalkIn
import Derived.TacticsInMore
import Derived.LoopNIn
import Derived.LoopIn
import Derived.Deep.RegionHeld3
import Derived.Lib.Hide
import Derived.Laws.IdiomStrings
import Derived.Lib.Join
import Derived.Lib.ItoaNum
import Derived.Lib.Bytealg
import Derived.Lib.Small
import Derived.Lib.Replace
import Derived.Lib.ValidU
import Derived.Lib.ValidLaws
import Derived.Lib.SplitLaws
/-! The law of a range over a function, in the form that these proofs use: the iterator's contract is `Iter`, the caller's law is `wp_range`. Nothing of the program is named here. -/
namespace Go.Proofs.YtnkaegdnjfpliaaGreatDoor
set_option linter.unusedSimpArgs false
set_option linter.unusedVariables false
open Go.RowKit

/-- The fence that lets everything in. -/
abbrev FW : Fence := Fence.wide
abbrev FR (l : Nat) : Fence := Fence.wide.inRound l

/-- From W to W': blocks that lay stay as they were, but for those in S. -/
structure Touch (S : Nat → Prop) (W W' : World) : Prop where
  os : W'.os = W.os
  tape : W'.tape = W.tape
  output : W'.output = W.output
  size : W.heap.size ≤ W'.heap.size
  block : ∀ b, b < W.heap.size → ¬ S b → W'.heap[b]? = W.heap[b]?

section
variable {S S' : Nat → Prop} {W W' W'' : World}
theorem Touch.refl (S : Nat → Prop) (W : World) : Touch S W W := ⟨rfl, rfl, rfl, Nat.le_refl _, fun _ _ _ => rfl⟩
theorem Touch.trans (h : Touch S W W') (g : Touch S W' W'') : Touch S W W'' :=
  ⟨g.os.trans h.os, g.tape.trans h.tape, g.output.trans h.output, Nat.le_trans h.size g.size, fun b hb hr => (g.block b (Nat.lt_of_lt_of_le hb h.size) hr).trans (h.block b hb hr)⟩
theorem Touch.mono (h : Touch S W W') (hs : ∀ b, b < W.heap.size → S b → S' b) : Touch S' W W' :=
  ⟨h.os, h.tape, h.output, h.size, fun b hb hr => h.block b hb fun hs' => hr (hs b hb hs')⟩
theorem Touch.of_below {B : Nat} (h : Below B W W') (hs : ∀ b, b < W.heap.size → B ≤ b → S b) : Touch S W W' :=
  ⟨h.os, h.tape, h.output, h.size, fun b hb hr => h.block b (Nat.lt_of_not_le fun hle => hr (hs b hb hle))⟩
theorem Touch.grow (h : Touch S W W') (g : Below W'.heap.size W' W'') : Touch S W W'' := h.trans (Touch.of_below g fun b hb hle => absurd hb (by omega))
theorem Touch.alloc (h : Touch S W W') (o : Obj) : Touch S W (W'.alloc o) := h.grow ((Below.refl _ _).alloc (Nat.le_refl _) _)
theorem Touch.drew (h : Touch S W W') : Touch S W W'.drew := ⟨h.os, h.tape, h.output, h.size, h.block⟩
theorem Touch.setCell (h : Touch S W W') {b o : Nat} (hp : S b ∨ W.heap.size ≤ b) (v : Value) : Touch S W (W'.setCell ⟨b, o, none⟩ v) :=
  ⟨h.os, h.tape, h.output, by simpa [World.setCell] using h.size, fun b hb hr => (Below.heap_setCell _ _ _ _ (fun e => by subst e; rcases hp with hp | hp <;> first | exact hr hp | omega)).trans (h.block b hb hr)⟩
theorem Touch.putObj (h : Touch S W W') {l : Nat} (hp : S l ∨ W.heap.size ≤ l) (o : Obj) : Touch S W (W'.putObj l o) :=
  ⟨h.os, h.tape, h.output, by simpa using h.size, fun b hb hr => (World.putObj_heap_other (fun e => by subst e; rcases hp with hp | hp <;> first | exact hr hp | omega)).trans (h.block b hb hr)⟩
theorem Touch.step (h : Touch S W W') (g : Touch S' W' W'') (hs : ∀ b, b < W.heap.size → S' b → S b) : Touch S W W'' :=
  ⟨g.os.trans h.os, g.tape.trans h.tape, g.output.trans h.output, Nat.le_trans h.size g.size, fun b hb hr => (g.block b (Nat.lt_of_lt_of_le hb h.size) fun h' => hr (hs b hb h')).trans (h.block b hb hr)⟩
theorem Touch.heap (g : Touch S W W') {b : Nat} {o : Obj} (h : W.heap[b]? = some o) (h1 : ¬ S b) : W'.heap[b]? = some o :=
  (g.block b (Array.getElem?_eq_some_iff.1 h).1 h1).trans h
theorem Touch.cell (g : Touch S W W') {b o : Nat} {v : Value} (h : W.cell? ⟨b, o, none⟩ = some v) (h1 : ¬ S b) : W'.cell? ⟨b, o, none⟩ = some v :=
  (World.cell?_of_block (w := W) (a := ⟨b, o, none⟩) (g.block b (World.block_lt_of_cell? W _ h) h1)).trans h
theorem Touch.frozen (g : Touch S W W') {b o : Nat} {t : Bool} (h : W.frozen? ⟨b, o, none⟩ = t) (hlt : b < W.heap.size) (h1 : ¬ S b) : W'.frozen? ⟨b, o, none⟩ = t :=
  (World.frozen?_of_block (w := W) (a := ⟨b, o, none⟩) (g.block b hlt h1)).trans h
theorem Touch.below {B : Nat} {w : World} (g : Touch S W W') (h : Below B w W) (h1 : ∀ b, b < B → ¬ S b) (h2 : B ≤ W.heap.size) : Below B w W' :=
  ⟨g.os.trans h.os, g.tape.trans h.tape, g.output.trans h.output, Nat.le_trans h.size g.size, fun b hb => (g.block b (by omega) (h1 b hb)).trans (h.block b hb)⟩
theorem Touch.toBelow {B : Nat} (h : Touch S W W') (hB : B ≤ W.heap.size) (hs : ∀ b, b < B → ¬ S b) : Below B W W' :=
  ⟨h.os, h.tape, h.output, h.size, fun b hb => h.block b (by omega) (hs b hb)⟩
end

/-- What an iterator does between two rounds: blocks that lay stay, but for its own, which are [n0, n0+k). -/
abbrev Keep (n0 k : Nat) (W W' : World) : Prop := Touch (fun b => n0 ≤ b ∧ b < n0 + k) W W'

/-- A call of yield: its run as an equation, and the round's contract. -/
def Yields (P : Program) (l : Nat) (args : Array Value) (W : World) (R : Ending → World → Prop) : Prop :=
  ∃ fn tmps assign body, (Instr.yield l args).run P W = .ok (.round l fn tmps assign body) W ∧ RoundIn FW 0 P l fn tmps assign body W R

def Ended {α : Type} (Done : List α → Prop) (J : List α → World → Prop) (Jx : World → Prop) (W' : World) : Prop := (∃ xs, Done xs ∧ J xs W') ∨ Jx W'

/-- The contract of an iterator: the function gf with the captured lb. `Ok`: the enumerations that may come so far; `Done`: those after which it ends by itself. `Pre`: what it must find in memory at every round. k: how many blocks it lays at its begin and turns later. -/
def Iter {α : Type} (P : Program) (gf : FuncId) (lb : Array Value) (enc : α → Array Value) (Ok Done : List α → Prop) (k : Nat) (Pre : World → Prop) : Prop :=
  ∀ (l : Nat) (J : List α → World → Prop) (Jx : World → Prop) (w : World), l < w.heap.size →
    (∀ pre W, J pre W → Pre W) →
    (∀ pre W W', J pre W → w.heap.size ≤ W.heap.size → Keep w.heap.size k W W' → J pre W') →
    (∀ pre x W, Ok (pre ++ [x]) → J pre W → w.heap.size + k ≤ W.heap.size → Yields P l (enc x) W (fun e W' =>
      (∀ b, w.heap.size ≤ b → b < w.heap.size + k → W'.heap[b]? = W.heap[b]?) ∧ W.heap.size ≤ W'.heap.size ∧
      ((e = .returned (.bool true) ∧ J (pre ++ [x]) W') ∨ (e = .returned (.bool false) ∧ Jx W')))) →
    J [] w →
    CallsIn FW 0 P gf (#[.func (.yield l) #[] #[]] ++ lb) w (fun e W' => e = .returned (.tuple #[]) ∧ Ended Done J Jx W')

/-- The record of a loop. -/
def recOf (fn : FuncId) (tmps : Array Value) (ps : Array Tmp) (assign body : Code) (D : Nat) (st : LoopState) (pend : Option Code) : Obj :=
  .loop { state := st, pending := pend, fn := fn, tmps := tmps, params := ps, assign := assign, body := body, defers := D }

theorem run_getLoop {P : Program} {W : World} {l : Nat} {r : Loop} (h : W.heap[l]? = some (.loop r)) : (Instr.getLoop l).run P W = .ok r W := by
  simp [Instr.getLoop, getObj, Sem.run_bind, Sem.run, h, Result.andThen]

theorem run_beginRound {P : Program} {W : World} {l : Nat} {fn : FuncId} {tmps : Array Value} {ps : Array Tmp} {assign body : Code} {D : Nat}
    (h : W.heap[l]? = some (recOf fn tmps ps assign body D .ready none)) :
    (Instr.beginRound l).run P W = .ok () (W.putObj l (recOf fn tmps ps assign body D .busy none)) := by
  unfold recOf at *
  simp [Instr.beginRound, Sem.run_bind, run_getLoop h, Result.andThen, setObj, Sem.run, h, World.putObj]

theorem run_endRound {P : Program} {W : World} {l : Nat} {fn : FuncId} {tmps : Array Value} {ps : Array Tmp} {assign body : Code} {D : Nat} (jump : Option Code)
    (h : W.heap[l]? = some (recOf fn tmps ps assign body D .busy none)) :
    (Instr.endRound l jump).run P W = .ok (.bool jump.isNone) (W.putObj l (recOf fn tmps ps assign body D (if jump.isNone then .ready else .done) jump)) := by
  unfold recOf at *
  simp [Instr.endRound, Sem.run_bind, run_getLoop h, Result.andThen, setObj, Sem.run, h, World.putObj]

theorem run_endLoop {P : Program} {W : World} {l : Nat} {fn : FuncId} {tmps : Array Value} {ps : Array Tmp} {assign body : Code} {D : Nat} {st : LoopState} {pend : Option Code}
    (hst : st ≠ .busy) (h : W.heap[l]? = some (recOf fn tmps ps assign body D st pend)) :
    (Instr.endLoop l).run P W = .ok pend (W.putObj l (recOf fn tmps ps assign body D .exhausted pend)) := by
  unfold recOf at *
  simp [Instr.endLoop, Sem.run_bind, run_getLoop h, Result.andThen, setObj, Sem.run, h, World.putObj, hst]

theorem run_enterLoop {P : Program} {W : World} {fn : FuncId} {tmps : Array Value} {ps : Array Tmp} {assign body : Code} :
    (Instr.enterLoop fn tmps ps assign body none).run P W =
      .ok (W.heap.size + 1, [{ target := .collected W.heap.size, args := #[] }]) ((W.alloc (.deferred (some []))).alloc (recOf fn tmps ps assign body W.heap.size .ready none)) := by
  simp [Instr.enterLoop, newObj, Sem.run, recOf]

theorem run_yield {P : Program} {W : World} {l : Nat} {fn : FuncId} {tmps : Array Value} {ps : Array Tmp} {assign body : Code} {D : Nat} {st : LoopState} {pend : Option Code} {args : Array Value}
    (hs : args.size = ps.size) (h : W.heap[l]? = some (recOf fn tmps ps assign body D st pend)) :
    (Instr.yield l args).run P W = .ok (.round l fn ((ps.zip args).foldl (fun tmps (t, a) => tmps.setIfInBounds t a) tmps) assign body) W := by
  unfold recOf at *
  simp [Instr.yield, Sem.run_bind, run_getLoop h, Result.andThen, hs]

/-- What the body of a round owes: on: `N`; left by a jump c: `X c`. -/
def roundEnd (N : World → Prop) (X : Code → World → Prop) : Exit → Act → World → Prop
  | .normal, _, W => N W
  | .ret, _, W => X .ret W
  | .exit id, _, W => X (.exit id) W
  | .goto t, _, W => X (.goto t) W
  | .panic _, _, _ => False
  | .outgrown, _, _ => False

theorem enters_plain {P : Program} {gf : FuncId} {fn : Func} (h : P.funcs[gf]? = some fn) (hb : fn.body.isSome = true) (hn : (fn.name == "runtime.NumGoroutine") = false) (args : Array Value) (w : World) :
    (callFunc gf args).run P w = .ok (.enter gf args) w := by
  have hb' : ¬ fn.body = none := by cases hx : fn.body <;> simp_all
  have hn' : ¬ fn.name = "runtime.NumGoroutine" := by simpa using hn
  simp [callFunc, program, Sem.run_bind, Sem.run, Result.andThen, h, hn', hb']

theorem putObj_self {W : World} {l : Nat} {o o' : Obj} (h : W.heap[l]? = some o) : (W.putObj l o').heap[l]? = some o' := by
  obtain ⟨hlt, _⟩ := Array.getElem?_eq_some_iff.1 h
  simp [World.putObj, hlt]

/-- Between the assignment and the body: the record is turned to busy. -/
def Mid (l : Nat) (r r' : Obj) (W w₁ : World) (K : World → Prop) : Prop :=
  Touch (fun _ => False) W w₁ ∧ w₁.heap[l]? = some r ∧ ∀ w₂, w₂ = w₁.putObj l r' → K w₂

/-- The body's own doing. -/
def Over (S : Nat → Prop) (w₂ W' : World) : Prop := Touch S w₂ W'

/-- THE STATEMENT `for .. := range g { body }`, in a frame of no round. -/
theorem wp_range {α : Type} {P : Program} {g : Operand} {ps : Array Tmp} {assign body : Code} {Q : Exit → Act → World → Prop} {a : Act} {w : World}
    {gf : FuncId} {lb : Array Value} {enc : α → Array Value} {Ok Done : List α → Prop} {k : Nat} {Pre : World → Prop} {gfn : Func}
    (hg : a.eval g = .func (.func gf) #[] lb) (hfn : P.funcs[gf]? = some gfn) (hbody : gfn.body.isSome = true) (hname : (gfn.name == "runtime.NumGoroutine") = false)
    (hit : Iter P gf lb enc Ok Done k Pre) (henc : ∀ x, (enc x).size = ps.size)
    (I : List α → World → Prop) (Ix : Code → World → Prop)
    (S : Nat → Prop) (hS : ∀ b, S b → b < w.heap.size ∨ w.heap.size + 2 + k ≤ b)
    (h0 : ∀ W, Below w.heap.size w W → w.heap.size + 2 ≤ W.heap.size → I [] W)
    (hpre : ∀ pre W, I pre W → Pre W)
    (hkeep : ∀ pre W W', I pre W → w.heap.size + 2 ≤ W.heap.size → Keep (w.heap.size + 2) k W W' → I pre W')
    (hput : ∀ pre W o, I pre W → I pre (W.putObj (w.heap.size + 1) o))
    (hputx : ∀ c W o, Ix c W → Ix c (W.putObj (w.heap.size + 1) o))
    (hround : ∀ (r r' : Obj) (pre : List α) (x : α) (W : World), Ok (pre ++ [x]) → I pre W → w.heap.size + 2 + k ≤ W.heap.size → W.heap[w.heap.size + 1]? = some r →
      assign.wpIn (FR (w.heap.size + 1)) 0 P (Exit.then (fun a₁ w₁ => Mid (w.heap.size + 1) r r' W w₁ fun w₂ =>
            body.wpIn (FR (w.heap.size + 1)) 0 P (roundEnd (fun W' => Over S w₂ W' ∧ I (pre ++ [x]) W') (fun c W' => Over S w₂ W' ∧ Ix c W')) a₁ w₂) (fun _ _ _ => False))
        { tmps := (ps.zip (enc x)).foldl (fun tmps (t, a) => tmps.setIfInBounds t a) a.tmps, defers := [] } W)
    (hdone : ∀ xs W, Done xs → I xs W → W.heap[w.heap.size]? = some (.deferred (some [])) → Q .normal { a with defers := { target := .collected w.heap.size, args := #[] } :: a.defers } W)
    (hstop : ∀ c W, Ix c W → W.heap[w.heap.size]? = some (.deferred (some [])) → c.wp P Q { a with defers := { target := .collected w.heap.size, args := #[] } :: a.defers } W) :
    (Code.rangeFunc g ps assign body).wp P Q a w := by
  refine (wpIn_wide (n := 0)).1 (wpIn_rangeFunc fun fn _ => ?_)
  have hD0 : ∀ o, ((w.alloc (.deferred (some []))).alloc o).heap[w.heap.size]? = some (.deferred (some [])) := fun o => by
    rw [Below.heap_alloc _ _ _ (by simp)]; exact heap_alloc_new w _
  have hl0 : ∀ o, ((w.alloc (.deferred (some []))).alloc o).heap[w.heap.size + 1]? = some o := fun o => by
    have := heap_alloc_new (w.alloc (.deferred (some []))) o; simpa using this
  let w₁ := (w.alloc (.deferred (some []))).alloc (recOf fn a.tmps ps assign body w.heap.size .ready none)
  have hsz : w₁.heap.size = w.heap.size + 2 := by simp [w₁]
  refine ⟨_, _, w₁, { target := .fn (.func gf) lb, args := #[.func (.yield (w.heap.size + 1)) #[] #[]] }, w₁, gf, #[.func (.yield (w.heap.size + 1)) #[] #[]] ++ lb, w₁, run_enterLoop, ?_, fun _ _ => trivial, ?_, (fun h => by simp [Fence.wide] at h), ?_⟩
  · have hy : a.eval (.const (.func (.yield (w.heap.size + 1)) #[] #[])) = .func (.yield (w.heap.size + 1)) #[] #[] := rfl
    simp only [resolve, hg, hy, List.map_toArray, List.map_cons, List.map_nil]
    rfl
  · simp only [invoke]; exact enters_plain hfn hbody hname _ _
  · let J : List α → World → Prop := fun pre W => I pre W ∧ W.heap[w.heap.size]? = some (.deferred (some [])) ∧ W.heap[w.heap.size + 1]? = some (recOf fn a.tmps ps assign body w.heap.size .ready none)
    let Jx : World → Prop := fun W => ∃ c, Ix c W ∧ W.heap[w.heap.size]? = some (.deferred (some [])) ∧ W.heap[w.heap.size + 1]? = some (recOf fn a.tmps ps assign body w.heap.size .done (some c))
    have hcall := hit (w.heap.size + 1) J Jx w₁ (by omega) (fun pre W h => hpre pre W h.1) ?_ ?_ ?_
    · have hq : CallsIn FW (0 - 1) P gf (#[.func (.yield (w.heap.size + 1)) #[] #[]] ++ lb) w₁ (rangePost FW 0 P (w.heap.size + 1) Q { a with defers := [{ target := .collected w.heap.size, args := #[] }] ++ a.defers }) := by
        refine ⟨hcall.1, fun cs hr => ?_⟩
        obtain ⟨e, w', fr, ⟨he, hJ⟩, rest⟩ := hcall.2 cs hr
        subst he
        refine ⟨_, w', fr, ?_, rest⟩
        rcases hJ with ⟨xs, hx, hI, hD, hl⟩ | ⟨c, hI, hD, hl⟩
        · refine ⟨none, _, run_endLoop (by simp) hl, ?_⟩
          refine hdone xs _ hx (hput _ _ _ hI) ?_
          rw [World.putObj_heap_other (by omega)]; exact hD
        · refine ⟨some c, _, run_endLoop (by simp) hl, ?_⟩
          refine (wpIn_wide (n := 0)).2 (hstop c _ (hputx _ _ _ hI) ?_)
          rw [World.putObj_heap_other (by omega)]; exact hD
      exact hq
    · rintro pre W W' ⟨hI, hD, hl⟩ hs hk
      rw [hsz] at hk hs
      exact ⟨hkeep pre W W' hI hs hk, hk.heap hD (by omega), hk.heap hl (by omega)⟩
    · rintro pre x W hok ⟨hI, hD, hl⟩ hs
      rw [hsz] at hs
      refine ⟨_, _, _, _, run_yield (henc x) hl, ?_⟩
      refine roundIn_of_wpIn trivial ?_
      have hr := hround _ (recOf fn a.tmps ps assign body w.heap.size .busy none) pre x W hok hI hs hl
      intro b k' cs hb hF hroom
      obtain ⟨e, a', w', hq, harr⟩ := hr b k' cs hb hF hroom
      refine ⟨e, a', w', ?_, harr⟩
      cases e with
      | normal =>
        obtain ⟨htouch, hl1, hbd⟩ := hq
        have hD1 := htouch.heap hD (by simp)
        refine ⟨_, run_beginRound hl1, ?_⟩
        have hl2 : (w'.putObj (w.heap.size + 1) (recOf fn a.tmps ps assign body w.heap.size .busy none)).heap[w.heap.size + 1]? = some (recOf fn a.tmps ps assign body w.heap.size .busy none) :=
          putObj_self hl1
        have hD2 : (w'.putObj (w.heap.size + 1) (recOf fn a.tmps ps assign body w.heap.size .busy none)).heap[w.heap.size]? = some (.deferred (some [])) :=
          (World.putObj_heap_other (by omega)).trans hD1
        have hsz2 : W.heap.size ≤ (w'.putObj (w.heap.size + 1) (recOf fn a.tmps ps assign body w.heap.size .busy none)).heap.size := by simpa using htouch.size
        have hown2 : ∀ b, w.heap.size + 2 ≤ b → b < w.heap.size + 2 + k → (w'.putObj (w.heap.size + 1) (recOf fn a.tmps ps assign body w.heap.size .busy none)).heap[b]? = W.heap[b]? := fun b h1 h2 =>
          (World.putObj_heap_other (by omega)).trans (htouch.block b (by omega) (by simp))
        have hb2 := hbd _ rfl
        generalize w'.putObj (w.heap.size + 1) (recOf fn a.tmps ps assign body w.heap.size .busy none) = w₂ at *
        intro b k' cs hb hF hroom
        obtain ⟨e, a', w'', hq, harr⟩ := hb2 b k' cs hb hF hroom
        refine ⟨e, a', w'', ?_, harr⟩
        have both : ∀ W', Over S w₂ W' → W'.heap[w.heap.size + 1]? = some (recOf fn a.tmps ps assign body w.heap.size .busy none) ∧ W'.heap[w.heap.size]? = some (.deferred (some [])) ∧
            W.heap.size ≤ W'.heap.size ∧ ∀ b, w.heap.size + 2 ≤ b → b < w.heap.size + 2 + k → W'.heap[b]? = W.heap[b]? := fun W' ho =>
          ⟨ho.heap hl2 (fun h => by have := hS _ h; omega), ho.heap hD2 (fun h => by have := hS _ h; omega), Nat.le_trans hsz2 ho.size,
            fun b h1 h2 => (ho.block b (by omega) (fun h => by have := hS _ h; omega)).trans (hown2 b h1 h2)⟩
        have leave : ∀ (c : Code) (W' : World), (Over S w₂ W' ∧ Ix c W') →
            ∃ v w₄, (Instr.endRound (w.heap.size + 1) (some c)).run P W' = .ok v w₄ ∧
              (∀ b, w₁.heap.size ≤ b → b < w₁.heap.size + k → w₄.heap[b]? = W.heap[b]?) ∧ W.heap.size ≤ w₄.heap.size ∧ ((Ending.returned v = .returned (.bool true) ∧ J (pre ++ [x]) w₄) ∨ (Ending.returned v = .returned (.bool false) ∧ Jx w₄)) := by
          rintro c W' ⟨ho, h1⟩
          obtain ⟨hl3, hD3, h2, h3⟩ := both W' ho
          refine ⟨_, _, run_endRound (some c) hl3, fun b hb1 hb2 => ?_, by simpa using h2, .inr ⟨rfl, c, hputx _ _ _ h1, ?_, putObj_self hl3⟩⟩
          · rw [hsz] at hb1 hb2
            rw [World.putObj_heap_other (by omega)]; exact h3 b hb1 hb2
          · rw [World.putObj_heap_other (by omega)]; exact hD3
        cases e with
        | normal =>
          obtain ⟨ho, h1⟩ := hq
          obtain ⟨hl3, hD3, h2, h3⟩ := both w'' ho
          refine ⟨_, _, run_endRound none hl3, fun b hb1 hb2 => ?_, by simpa using h2, .inl ⟨rfl, hput _ _ _ h1, ?_, putObj_self hl3⟩⟩
          · rw [hsz] at hb1 hb2
            rw [World.putObj_heap_other (by omega)]; exact h3 b hb1 hb2
          · rw [World.putObj_heap_other (by omega)]; exact hD3
        | ret => exact leave _ _ hq
        | exit id => exact leave _ _ hq
        | goto t => exact leave _ _ hq
        | panic c => exact hq.elim
        | outgrown => exact hq.elim
      | exit id => exact hq.elim
      | goto t => exact hq.elim
      | ret => exact hq.elim
      | panic c => exact hq.elim
      | outgrown => exact hq.elim
    · refine ⟨h0 _ ?_ (by omega), hD0 _, hl0 _⟩
      exact ((Below.refl _ _).alloc (Nat.le_refl _) _).alloc (by simp) _

/-! One operation whose run is known. -/
section
variable {P : Program} {ops : Array Oper} {Q : Exit → Act → World → Prop} {a : Act} {w w' : World} {rest : List Oper} {o : Oper} {v : Value}
theorem wpList_run (hg : o.guard = none) (hr : (execOp a.eval o).run P w = .ok (.value v) w') (h : wpList P ops Q rest (a.put o.dst v) w') : wpList P ops Q (o :: rest) a w :=
  wpList_plain hg fun K hK => by unfold Oper.wp; rw [hr]; exact hK _ _ h
theorem wpListIn_run {F : Fence} {n : Nat} (hF : ∀ f, F.fn f) (hg : o.guard = none) (hd : ∀ c, o.op ≠ .defer c) (hr : (execOp a.eval o).run P w = .ok (.value v) w') (h : wpListIn F n P ops Q rest (a.put o.dst v) w') :
    wpListIn F n P ops Q (o :: rest) a w :=
  wpListIn_plain hg fun K hK => by
    refine ⟨fun f _ => hF f, ?_⟩
    rw [Oper.semAt_eq _ _ _ hd, hr]; exact hK _ _ h
theorem exec_load {ty : TypeId} {x : Operand} {b : Addr} (ho : o.op = .load ty x) (hx : a.eval x = .pointer (some b)) (hr : (loadVar ty b).run P w = .ok v w) : (execOp a.eval o).run P w = .ok (.value v) w := by
  unfold execOp; rw [ho]
  simp only [hx, Instr.loadAt, Instr.sureAddr, Sem.run_bind, Sem.run_pure, Result.andThen_ok, hr]
theorem exec_store {ty : TypeId} {x y : Operand} {b : Addr} (ho : o.op = .store ty x y) (hx : a.eval x = .pointer (some b)) (hy : a.eval y = v) (hr : (storeVar ty b v).run P w = .ok () w') : (execOp a.eval o).run P w = .ok .skip w' := by
  unfold execOp; rw [ho]
  simp only [hx, hy, Instr.storeAt, Instr.sureAddr, Sem.run_bind, Sem.run_pure, Result.andThen_ok, hr]
theorem wpList_load (hg : o.guard = none) (ty : TypeId) (x : Operand) (b : Addr) (ho : o.op = .load ty x) (hx : a.eval x = .pointer (some b)) (hr : (loadVar ty b).run P w = .ok v w)
    (h : wpList P ops Q rest (a.put o.dst v) w) : wpList P ops Q (o :: rest) a w := wpList_run hg (exec_load ho hx hr) h
theorem wpListIn_load {F : Fence} {n : Nat} (hF : ∀ f, F.fn f) (hg : o.guard = none) (ty : TypeId) (x : Operand) (b : Addr) (ho : o.op = .load ty x) (hx : a.eval x = .pointer (some b)) (hr : (loadVar ty b).run P w = .ok v w)
    (h : wpListIn F n P ops Q rest (a.put o.dst v) w) : wpListIn F n P ops Q (o :: rest) a w := wpListIn_run hF hg (by rw [ho]; simp) (exec_load ho hx hr) h
theorem wpList_store (hg : o.guard = none) (ty : TypeId) (x y : Operand) (b : Addr) (ho : o.op = .store ty x y) (hx : a.eval x = .pointer (some b)) (hy : a.eval y = v) (hr : (storeVar ty b v).run P w = .ok () w')
    (h : wpList P ops Q rest (a.put o.dst undef) w') : wpList P ops Q (o :: rest) a w :=
  wpList_plain hg fun K hK => by unfold Oper.wp; rw [exec_store ho hx hy hr]; exact hK _ _ h
theorem wpListIn_store {F : Fence} {n : Nat} (hF : ∀ f, F.fn f) (hg : o.guard = none) (ty : TypeId) (x y : Operand) (b : Addr) (ho : o.op = .store ty x y) (hx : a.eval x = .pointer (some b)) (hy : a.eval y = v) (hr : (storeVar ty b v).run P w = .ok () w')
    (h : wpListIn F n P ops Q rest (a.put o.dst undef) w') : wpListIn F n P ops Q (o :: rest) a w :=
  wpListIn_plain hg fun K hK => by
    refine ⟨fun f _ => hF f, ?_⟩
    rw [Oper.semAt_eq _ _ _ (by rw [ho]; simp), exec_store ho hx hy hr]; exact hK _ _ h
end

/-! What a caller's invariant is made of: `Below`, and cells of its own. -/
theorem below_putObj {B l : Nat} {w W : World} {o : Obj} (h : Below B w W) (hl : B ≤ l) : Below B w (W.putObj l o) :=
  ⟨h.os, h.tape, h.output, by simpa using h.size, fun b hb => (World.putObj_heap_other (by omega)).trans (h.block b hb)⟩
theorem cell_putObj {l b i : Nat} {W : World} {o : Obj} (hl : b ≠ l) : (W.putObj l o).cell? ⟨b, i, none⟩ = W.cell? ⟨b, i, none⟩ :=
  World.cell?_of_block (w := W) (World.putObj_heap_other hl)
theorem frozen_putObj {l b i : Nat} {W : World} {o : Obj} (hl : b ≠ l) : (W.putObj l o).frozen? ⟨b, i, none⟩ = W.frozen? ⟨b, i, none⟩ :=
  World.frozen?_of_block (w := W) (World.putObj_heap_other hl)
theorem ltOf {b o : Nat} {w : World} {v : Value} (h : w.cell? ⟨b, o, none⟩ = some v) : b < w.heap.size := World.block_lt_of_cell? w _ h
theorem belowBlk {B b : Nat} {w w' : World} {o : Obj} (h : Below B w w') (hb : b < B) (ho : w.heap[b]? = some o) : w'.heap[b]? = some o := (h.block b hb).trans ho
theorem belowCell {B b o : Nat} {w w' : World} {v : Value} (h : Below B w w') (hb : b < B) (ho : w.cell? ⟨b, o, none⟩ = some v) : w'.cell? ⟨b, o, none⟩ = some v := (h.cell (p := ⟨b, o, none⟩) hb).trans ho
theorem belowFrozen {B b o : Nat} {w w' : World} {t : Bool} (h : Below B w w') (hb : b < B) (ho : w.frozen? ⟨b, o, none⟩ = t) : w'.frozen? ⟨b, o, none⟩ = t := (h.frozen (p := ⟨b, o, none⟩) hb).trans ho
theorem belowSet {B b o : Nat} {w w' : World} (h : Below B w w') (hb : B ≤ b) (v : Value) : Below B w (w'.setCell ⟨b, o, none⟩ v) := Below.setCell (p := ⟨b, o, none⟩) h hb v
/-- The block of deferred calls is shut at the function's end. -/
theorem run_takeD {P : Program} {W : World} {D : Nat} (h : W.heap[D]? = some (.deferred (some []))) : (Instr.takeDeferred D).run P W = .ok [] (W.putObj D (.deferred none)) := by
  simp [Instr.takeDeferred, getObj, setObj, Sem.run_bind, Sem.run, h, Result.andThen, World.putObj]
/-- A function with one range over a function returns: the mark is met. -/
theorem leave_mark {P : Program} {fn : Func} {tmps : Array Value} {R : Ending → World → Prop} {D : Nat} {W : World} {v : Value} (h : W.heap[D]? = some (.deferred (some [])))
    (hr : (results fn tmps).run P (W.putObj D (.deferred none)) = .ok v (W.putObj D (.deferred none))) (hR : R (.returned v) (W.putObj D (.deferred none))) :
    LeavesInM FW 0 P fn tmps R [{ target := .collected D, args := #[] }] .returning W :=
  ⟨by simp, .inl ⟨D, _, rfl, run_takeD h, v, hr, hR⟩⟩

/-- A function's contract from its body, where the body holds a range over a function. -/
theorem calls_of_wp_marks {P : Program} {f : FuncId} {fn : Func} {c : Code} {args : Array Value} {w : World} {R : Ending → World → Prop}
    (hf : P.funcs[f]? = some fn) (hb : fn.body = some c)
    (h : c.wp P (bodyPostM FW 0 P fn R) { tmps := args ++ Array.replicate (fn.ntmps - args.size) undef, defers := [] } w) : Calls P f args w R :=
  (callsIn_wide (n := 0)).1 (callsIn_of_wp_marks hf hb trivial ((wpIn_wide (n := 0)).2 h))

end Go.Proofs.YtnkaegdnjfpliaaGreatDoor

/-! A region within a round, by the plain laws: what is walked as in a plain frame holds in a round's frame, too. And regions that draw their order, operation by operation. Nothing of the program is named here. -/
namespace Go.Proofs.YtnkaegdnjfpliaaGreatDoor
set_option linter.unusedSimpArgs false
set_option linter.unusedVariables false
open Go.RowKit

section
variable {P : Program} {ops : Array Oper} {Q : Exit → Act → World → Prop} {a : Act} {w : World} {l : Nat}

theorem callsIn_round {f : FuncId} {args : Array Value} {R : Ending → World → Prop} (h : Calls P f args w R) : CallsIn (FR l) 0 P f args w R := CallsIn.inRound l ((callsIn_wide (n := 0)).2 h)

theorem operIn_of_oper {o : Oper} {K : Act → World → Prop} (hd : ∀ c, o.op ≠ .defer c) (h : o.wp P a w K Q) : o.wpIn (FR l) 0 P a w K Q := by
  refine ⟨fun _ _ => trivial, ?_⟩
  rw [Oper.semAt_eq _ _ _ hd]
  unfold Oper.wp at h
  generalize (execOp a.eval o).run P w = r at *
  cases r with
  | ok n w' =>
    cases n <;> simp only [Oper.upon] at h <;> simp only [Oper.uponIn]
    case value => exact h
    case skip => exact h
    case defer => exact h
    case enter f args => exact ⟨fun h => by simp [Fence.wide, Fence.inRound] at h, callsIn_round h⟩
    case row row args =>
      refine ⟨fun h => by simp [Fence.wide, Fence.inRound] at h, fun c cs _ => ?_⟩
      obtain ⟨v, w'', hr, hs⟩ := h c cs
      exact ⟨v, w'', hr, stepsIn_wide.2 hs⟩
  | halt x w' => cases x <;> simp only [Oper.upon] at h <;> first | exact h.elim | (simp only [Oper.uponIn]; exact h)

theorem wpListIn_of_wpList (hq : ∀ a w, ¬ Q .outgrown a w) : ∀ (os : List Oper) (a : Act) (w : World), (∀ o ∈ os, ∀ c, o.op ≠ .defer c) → wpList P ops Q os a w → wpListIn (FR l) 0 P ops Q os a w
  | [], _, _, _, h => h
  | o :: os, a, w, hd, h => by
    unfold wpList at h
    unfold wpListIn
    split at h
    · rename_i hw
      rw [if_pos hw]
      rcases h with h | ⟨_, b, w', h⟩
      · exact operIn_of_oper (hd o (by simp)) (Oper.wp_mono (fun a w h => wpListIn_of_wpList hq os a w (fun o' h' => hd o' (by simp [h'])) h) h)
      · exact absurd h (hq _ _)
    · rename_i hw
      rw [if_neg hw]
      exact ⟨fun _ _ => trivial, wpListIn_of_wpList hq os _ w (fun o' h' => hd o' (by simp [h'])) h⟩

theorem wpAnyIn_of_wpAny (hq : ∀ a w, ¬ Q .outgrown a w) (hd : ∀ (i : Nat) (o : Oper), ops[i]? = some o → ∀ c, o.op ≠ .defer c) : ∀ (fuel : Nat) (listed : Array Bool) (a : Act) (w : World), wpAny P .any ops Q fuel listed a w → wpAnyIn (FR l) 0 P .any ops Q fuel listed a w
  | 0, _, _, _, h => h
  | fuel + 1, listed, a, w, h => by
    refine ⟨h.1, fun i hi => ?_⟩
    have h1 := h.2 i hi
    unfold wpOp at h1
    unfold wpOpIn
    split at h1
    · rename_i ho; simp only [ho]; exact wpAnyIn_of_wpAny hq hd fuel _ _ _ h1
    · rename_i o ho
      simp only [ho]
      split at h1
      · rename_i hw
        rw [if_pos hw]
        rcases h1 with h1 | ⟨_, b, w', h1⟩
        · exact operIn_of_oper (hd i o ho) (Oper.wp_mono (fun a w h => wpAnyIn_of_wpAny hq hd fuel _ a w h) h1)
        · exact absurd h1 (hq _ _)
      · rename_i hw
        rw [if_neg hw]
        exact ⟨fun _ _ => trivial, wpAnyIn_of_wpAny hq hd fuel _ _ _ h1⟩

/-- No operation of these is a defer statement. -/
def noDefer (ops : Array Oper) : Bool := ops.toList.all fun o => match o.op with | .defer _ => false | _ => true
theorem noDefer_spec (h : noDefer ops = true) : ∀ o ∈ ops.toList, ∀ c, o.op ≠ .defer c := fun o ho c e => by
  have := List.all_eq_true.1 h o ho
  rw [e] at this; cases this

/-- What follows a region, and no other way out of it. -/
def Only (K : Act → World → Prop) : Exit → Act → World → Prop
  | .normal, a, w => K a w
  | _, _, _ => False

/-- A region in a round, in the order of the text. -/
theorem round_region {id : Nat} {os : List Oper} (hd : noDefer os.toArray = true) (h : wpList P os.toArray (Only (Q .normal)) os a w) : (Code.region id os.toArray false).wpIn (FR l) 0 P Q a w := by
  refine wpIn_region_lit (wpListIn_mono ?_ (wpListIn_of_wpList (Q := Only (Q .normal)) (fun _ _ h => h) os a w (by simpa using noDefer_spec hd) h))
  intro e a w h; cases e <;> first | exact h | exact h.elim
where
  wpListIn_mono {F : Fence} {n : Nat} {Q Q' : Exit → Act → World → Prop} {ops : Array Oper} {os : List Oper} {a : Act} {w : World} (hq : ∀ e a w, Q e a w → Q' e a w) (h : wpListIn F n P ops Q os a w) : wpListIn F n P ops Q' os a w := by
    induction os generalizing a w with
    | nil => exact hq _ _ _ h
    | cons o os ih =>
      unfold wpListIn at h ⊢
      split at h
      · rename_i hw; rw [if_pos hw]; exact operIn_mono hq (fun a w h => ih h) h
      · rename_i hw; rw [if_neg hw]; exact ⟨h.1, ih h.2⟩
  operIn_mono {F : Fence} {n : Nat} {Q Q' : Exit → Act → World → Prop} {o : Oper} {a : Act} {w : World} {K K' : Act → World → Prop} (hq : ∀ e a w, Q e a w → Q' e a w) (hk : ∀ a w, K a w → K' a w) (h : o.wpIn F n P a w K Q) : o.wpIn F n P a w K' Q' := by
    refine ⟨h.1, ?_⟩
    have h2 := h.2
    have out : LetsOut Q → LetsOut Q' := fun ⟨a, w, h⟩ => ⟨a, w, hq _ _ _ h⟩
    generalize (o.semAt F.round a.eval).run P w = r at *
    cases r with
    | ok n w' =>
      cases n <;> simp only [Oper.uponIn] at h2 ⊢
      case value => exact hk _ _ h2
      case skip => exact hk _ _ h2
      case defer => exact hk _ _ h2
      case enter f args => exact ⟨h2.1, h2.2.1, fun cs hr => let ⟨e, w', fr, h, rest⟩ := h2.2.2 cs hr; ⟨e, w', fr, (by cases e <;> first | exact hk _ _ h | exact hq _ _ _ h | exact out h), rest⟩⟩
      case row row args => exact ⟨h2.1, h2.2.mono fun _ _ h => hk _ _ h⟩
      case round => exact ⟨h2.1, h2.2.mono fun e _ h => by cases e <;> first | exact hk _ _ h | exact hq _ _ _ h | exact out h⟩
    | halt x w' => cases x <;> simp only [Oper.uponIn] at h2 ⊢ <;> first | exact hq _ _ _ h2 | exact h2

/-- What operation k waits for. -/
def afters (ops : Array Oper) (k : Nat) : List Nat := match ops[k]? with
  | some o => (o.after.toList.filter fun e => Region.binds .any e).map (·.on)
  | none => []
def marks (ops : Array Oper) : Nat → List Nat → List Nat
  | 0, s => s
  | k + 1, s => marks ops k (if s.contains k then s ++ afters ops k else s)
/-- Operation j waits for every other one. -/
def lastly (ops : Array Oper) (j : Nat) : Bool :=
  (List.range ops.size).all fun i => i == j || (marks ops ops.size (afters ops j)).contains i

/-- What is listed waits for nothing that is not. -/
def Closed (ops : Array Oper) (listed : Array Bool) : Prop := ∀ k, listed.getD k false = true → ∀ i ∈ afters ops k, listed.getD i false = true
theorem marks_listed {listed : Array Bool} (hc : Closed ops listed) : ∀ (k : Nat) (s : List Nat), (∀ i ∈ s, listed.getD i false = true) → ∀ i ∈ marks ops k s, listed.getD i false = true
  | 0, _, h => h
  | k + 1, s, h => by
    unfold marks
    refine marks_listed hc k _ ?_
    split
    · rename_i hk
      intro i hi
      rcases List.mem_append.1 hi with hi | hi
      · exact h i hi
      · exact hc k (h k (by simpa using hk)) i hi
    · exact h
theorem afters_listed {listed : Array Bool} {j : Nat} (hj : j ∈ Region.ready .any ops listed) : ∀ i ∈ afters ops j, listed.getD i false = true := by
  obtain ⟨_, o, ho, hall⟩ := mem_ready.1 hj
  intro i hi
  unfold afters at hi
  rw [ho] at hi
  obtain ⟨e, he, rfl⟩ := List.mem_map.1 hi
  obtain ⟨he1, he2⟩ := List.mem_filter.1 he
  exact hall e (Array.mem_toList_iff.1 he1) he2
theorem Closed.set {listed : Array Bool} {j : Nat} (hc : Closed ops listed) (hj : j ∈ Region.ready .any ops listed) : Closed ops (listed.setIfInBounds j true) := by
  intro k hk i hi
  rcases Nat.decEq k j with h | h
  · rw [getD_set_ne false (Ne.symm h)] at hk
    exact getD_set_true (hc k hk i hi)
  · subst h
    exact getD_set_true (afters_listed hj i hi)
theorem closed_none (n : Nat) : Closed ops (Array.replicate n false) := by
  intro k hk
  exfalso
  rcases Nat.lt_or_ge k n with h | h
  · simp [h] at hk
  · simp [h] at hk

/-- The ways out at operation i: those of Q, if it waits for all others; else none but onward. -/
def outs (ops : Array Oper) (Q : Exit → Act → World → Prop) (i : Nat) : Exit → Act → World → Prop := if lastly ops i = true then Q else Only (Q .normal)

/-- Whatever order is picked from here on; S holds behind each operation but one that waits for all others. -/
def wpE (P : Program) (ops : Array Oper) (Q : Exit → Act → World → Prop) (S : World → Prop) : Nat → Array Bool → Act → World → Prop
  | 0, listed, a, w => Closed ops listed → Region.ready .any ops listed = [] ∧ Q .normal a w
  | fuel + 1, listed, a, w => Closed ops listed → (Region.ready .any ops listed = [] → Q .normal a w) ∧
    ∀ i ∈ Region.ready .any ops listed, wpOp P ops (outs ops Q i) i (fun a' w' => (lastly ops i = true ∨ S w') ∧ wpE P ops Q S fuel (listed.setIfInBounds i true) a' w') a w

theorem oper_out {Q Q' : Exit → Act → World → Prop} {o : Oper} {N : Act → World → Prop} (hq : ∀ e a w, Q e a w → Q' e a w) (h : o.wp P a w N Q) : o.wp P a w N Q' := by
  have out : LetsOut Q → LetsOut Q' := fun ⟨a, w, h⟩ => ⟨a, w, hq _ _ _ h⟩
  unfold Oper.wp at *
  generalize (execOp a.eval o).run P w = r at *
  cases r with
  | ok n w' =>
    cases n <;> simp only [Oper.upon] at h ⊢
    case value => exact h
    case skip => exact h
    case defer => exact h
    case enter f args => exact h.mono fun e w' h => by cases e <;> first | exact h | exact hq _ _ _ h | exact out h
    case row row args => exact h
  | halt x w' => cases x <;> simp only [Oper.upon] at h ⊢ <;> first | exact hq _ _ _ h | exact h

theorem outs_le (Q : Exit → Act → World → Prop) (i : Nat) : ∀ e a w, outs ops Q i e a w → Q e a w := by
  intro e a w h
  unfold outs at h
  split at h
  · exact h
  · cases e <;> first | exact h | exact h.elim

theorem wpOp_out {Q Q' : Exit → Act → World → Prop} {i : Nat} {N : Act → World → Prop} (hq : ∀ e a w, Q e a w → Q' e a w) (h : wpOp P ops Q i N a w) : wpOp P ops Q' i N a w := by
  unfold wpOp at *
  split
  · rename_i ho; simpa only [ho] using h
  · rename_i o ho
    simp only [ho] at h
    split at h
    · rename_i hw
      rw [if_pos hw]
      rcases h with h | ⟨h1, a', w', h2⟩
      · exact .inl (oper_out hq h)
      · exact .inr ⟨h1, a', w', hq _ _ _ h2⟩
    · rename_i hw
      rw [if_neg hw]; exact h

theorem wpAny_of_wpE {Q : Exit → Act → World → Prop} {S : World → Prop} : ∀ (fuel : Nat) (listed : Array Bool) (a : Act) (w : World), Closed ops listed → wpE P ops Q S fuel listed a w → wpAny P .any ops Q fuel listed a w
  | 0, _, _, _, hc, h => h hc
  | fuel + 1, _, _, _, hc, h => ⟨(h hc).1, fun i hi => wpOp_mono (fun a' w' h' => wpAny_of_wpE fuel _ a' w' (hc.set hi) h'.2) (wpOp_out (outs_le Q i) ((h hc).2 i hi))⟩

/-- A region in a round that draws its order. -/
theorem round_region_draws {id : Nat} (S : World → Prop) (hm : P.follows .mixedOrders = true) (hd : noDefer ops = true) (hS : S w.drew)
    (h : S w.drew → wpE P ops (Only (Q .normal)) S ops.size (Array.replicate ops.size false) a w.drew) : (Code.region id ops true).wpIn (FR l) 0 P Q a w := by
  have h1 := wpAny_of_wpE _ _ _ _ (closed_none _) (h hS)
  have h2 := wpIn_region_any (F := FR l) (n := 0) (id := id) hm (wpAnyIn_of_wpAny (l := l) (Q := Only (Q .normal)) (fun _ _ h => h) (fun i o ho => noDefer_spec hd o (by have := List.mem_of_getElem? (l := ops.toList) (i := i) (by simpa using ho); exact this)) _ _ _ _ h1)
  intro b k cs h3 h4 h5
  obtain ⟨e, a', w', hq, harr⟩ := h2 b k cs h3 h4 h5
  exact ⟨e, a', w', by cases e <;> first | exact hq | exact hq.elim, harr⟩

/-- A region in a plain frame that draws its order. -/
theorem plain_region_draws {id : Nat} (S : World → Prop) (hm : P.follows .mixedOrders = true) (hS : S w.drew)
    (h : S w.drew → wpE P ops (Only (Q .normal)) S ops.size (Array.replicate ops.size false) a w.drew) : (Code.region id ops true).wp P Q a w := by
  have h2 := wp_region_any (id := id) hm (wpAny_of_wpE _ _ _ _ (closed_none _) (h hS))
  exact Code.wp_mono (fun e a w h => by cases e <;> first | exact h | exact h.elim) h2
/-- The same, where the last operation may leave by another way. -/
theorem plain_region_draws_out {id : Nat} (S : World → Prop) (hm : P.follows .mixedOrders = true) (hS : S w.drew)
    (h : S w.drew → wpE P ops Q S ops.size (Array.replicate ops.size false) a w.drew) : (Code.region id ops true).wp P Q a w :=
  wp_region_any (id := id) hm (wpAny_of_wpE _ _ _ _ (closed_none _) (h hS))

variable {S : World → Prop} {fuel : Nat} {listed : Array Bool} {K : Exit → Act → World → Prop}

theorem listed_no {i : Nat} {listed : Array Bool} (h : listed.getD i true = false) : listed.getD i false ≠ true := by
  rcases Nat.lt_or_ge i listed.size with h' | h'
  · simp [h'] at h ⊢; exact h
  · simp [Array.getElem?_eq_none h']

theorem not_lastly {i j : Nat} (hc : Closed ops listed) (hi : i ∈ Region.ready .any ops listed) (hj : j ∈ Region.ready .any ops listed) (hne : j ≠ i) : lastly ops j = true → False := by
  intro hl
  obtain ⟨hi0, oi, hoi, _⟩ := mem_ready.1 hi
  have hlt : i < ops.size := (Array.getElem?_eq_some_iff.1 hoi).1
  have h1 := List.all_eq_true.1 hl i (List.mem_range.2 hlt)
  simp only [Bool.or_eq_true, beq_iff_eq] at h1
  rcases h1 with h1 | h1
  · exact hne h1.symm
  · exact listed_no hi0 (marks_listed hc _ _ (afters_listed hj) i (by simpa using h1))

theorem wpE_first {i : Nat} {oi : Oper} {v : Value} (hi : ops[i]? = some oi) (hsel : ∀ (j : Nat) (o : Oper) cs b, ops[j]? = some o → o.op ≠ .select cs b) :
    ∀ (fuel : Nat) (listed : Array Bool) (a : Act) (w : World),
      (∀ j oj, ops[j]? = some oj → j ≠ i → listed.getD j true = false → (∀ e ∈ oj.after, Region.binds .any e = true → e.on ≠ i) → oi.apart ops oj = true) →
      i ∈ Region.ready .any ops listed → YieldsIf P ops S oi v a → S w →
      wpE P ops K S fuel (listed.setIfInBounds i true) (a.put oi.dst v) w → wpE P ops K S (fuel + 1) listed a w := by
  intro fuel
  induction fuel with
  | zero =>
    intro listed a w _ hr hy hS H hc
    refine ⟨fun h => absurd hr (by rw [h]; simp), fun j hj => ?_⟩
    rcases Nat.decEq j i with hji | hji
    · exact absurd (ready_mono hj hji) (by rw [(H (hc.set hr)).1]; simp)
    · subst hji; exact hy.wpOp hi hS ⟨.inr hS, H⟩
  | succ fuel ih =>
    intro listed a w hfree hr hy hS H hc
    refine ⟨fun h => absurd hr (by rw [h]; simp), fun j hj => ?_⟩
    rcases Nat.decEq j i with hji | hji
    · have hrj := (H (hc.set hr)).2 j (ready_mono hj hji)
      obtain ⟨hj0, oj, hoj, hall⟩ := mem_ready.1 hj
      have hi0 := (mem_ready.1 hr).1
      have hfar : ∀ e ∈ oj.after, Region.binds .any e = true → e.on ≠ i := fun e he hb heq => listed_no hi0 (heq ▸ hall e he hb)
      have houts : outs ops K j = Only (K .normal) := if_neg (fun h => not_lastly hc hr hj hji h)
      rw [houts] at hrj ⊢
      have hswap := wpOp_putIf hoj (hfree j oj hoj hji hj0 hfar) (fun cs b => hsel i oi cs b hi) (fun cs b => hsel j oj cs b hoj) (fun _ _ _ h => h) hy hrj
      refine wpOp_mono (fun a' w' h3 => ?_) hswap
      have hS' : S w' := h3.2.1.resolve_left (not_lastly hc hr hj hji)
      refine ⟨.inr hS', ih _ a' w' (fun k ok hk hki hun hno => hfree k ok hk hki ?_ hno) (ready_mono hr (Ne.symm hji)) h3.1 hS' ?_⟩
      · rcases Nat.decEq j k with hjk | hjk
        · rw [getD_set_ne true hjk] at hun; exact hun
        · exact hjk ▸ hj0
      · rw [Array.setIfInBounds_comm _ _ hji]; exact h3.2.2
    · subst hji; exact hy.wpOp hi hS ⟨.inr hS, H⟩

/-- An operation that yields one value in every world that meets S is taken first. -/
theorem take (i d : Nat) {oi : Oper} {v : Value} (hi : ops[i]? = some oi) (hdst : oi.dst = some d) (hs : Region.noSelect ops = true) (hf : Region.free .any ops listed i = true) (hr : (Region.ready .any ops listed).contains i = true)
    (hw : Region.wanted oi (yielded ops a.tmps) = true) (hy : ∀ w, S w → (execOp a.eval oi).run P w = .ok (.value v) w) (hS : S w)
    (h : wpE P ops K S fuel (listed.setIfInBounds i true) (a.put (some d) v) w) : wpE P ops K S (fuel + 1) listed a w :=
  have h := hdst ▸ h
  wpE_first hi (Region.noSelect_spec hs) fuel listed a w (Region.free_spec hi hf) (by simpa using hr) (.inl ⟨hw, hy⟩) hS h

/-- An operation whose guard says no is passed over. -/
theorem takeNot (i d : Nat) {oi : Oper} (hi : ops[i]? = some oi) (hdst : oi.dst = some d) (hs : Region.noSelect ops = true) (hf : Region.free .any ops listed i = true) (hr : (Region.ready .any ops listed).contains i = true)
    (hw : Region.wanted oi (yielded ops a.tmps) = false) (hS : S w)
    (h : wpE P ops K S fuel (listed.setIfInBounds i true) (a.put (some d) undef) w) : wpE P ops K S (fuel + 1) listed a w :=
  have h := hdst ▸ h
  wpE_first hi (Region.noSelect_spec hs) fuel listed a w (Region.free_spec hi hf) (by simpa using hr) (.inr ⟨hw, rfl⟩) hS h

/-- The one operation that may come up is carried out. -/
theorem only (i : Nat) {oi : Oper} (hi : ops[i]? = some oi) (hr : Region.ready .any ops listed = [i]) (hw : Region.wanted oi (yielded ops a.tmps) = true)
    (h : oi.wp P a w (fun a' w' => (lastly ops i = true ∨ S w') ∧ wpE P ops K S fuel (listed.setIfInBounds i true) a' w') (outs ops K i)) : wpE P ops K S (fuel + 1) listed a w := by
  intro _
  refine ⟨fun h => (by rw [h] at hr; cases hr), fun j hj => ?_⟩
  rw [hr] at hj
  obtain rfl : j = i := by simpa using hj
  unfold wpOp
  simp only [hi, hw, if_true]
  exact .inl h
theorem onlyRun (i d : Nat) {oi : Oper} {v : Value} {w' : World} (hi : ops[i]? = some oi) (hdst : oi.dst = some d) (hr : Region.ready .any ops listed = [i]) (hw : Region.wanted oi (yielded ops a.tmps) = true)
    (hx : (execOp a.eval oi).run P w = .ok (.value v) w') (hS : lastly ops i = true ∨ S w') (h : wpE P ops K S fuel (listed.setIfInBounds i true) (a.put (some d) v) w') : wpE P ops K S (fuel + 1) listed a w :=
  only i hi hr hw (by unfold Oper.wp; rw [hx]; exact ⟨hS, hdst ▸ h⟩)
theorem onlySkip (i : Nat) {oi : Oper} {w' : World} (hi : ops[i]? = some oi) (hdst : oi.dst = none) (hr : Region.ready .any ops listed = [i]) (hw : Region.wanted oi (yielded ops a.tmps) = true)
    (hx : (execOp a.eval oi).run P w = .ok .skip w') (hS : lastly ops i = true ∨ S w') (h : wpE P ops K S fuel (listed.setIfInBounds i true) a w') : wpE P ops K S (fuel + 1) listed a w :=
  only i hi hr hw (by unfold Oper.wp; rw [hx]; refine ⟨hS, ?_⟩; rw [hdst]; exact h)
theorem done {K : Act → World → Prop} (hr : Region.ready .any ops listed = []) (h : K a w) : ∀ fuel, wpE P ops (Only K) S fuel listed a w
  | 0 => fun _ => ⟨hr, h⟩
  | _ + 1 => fun _ => ⟨fun _ => h, by rw [hr]; simp⟩
theorem doneQ (hr : Region.ready .any ops listed = []) (h : K .normal a w) : ∀ fuel, wpE P ops K S fuel listed a w
  | 0 => fun _ => ⟨hr, h⟩
  | _ + 1 => fun _ => ⟨fun _ => h, by rw [hr]; simp⟩
end

/-! Operations out of their runs. -/
section
variable {P : Program} {a : Act} {w w' : World} {o : Oper} {v : Value}
theorem exec_fieldAddr {s : TypeId} {x : Operand} {k : Nat} {u : Value} (ho : o.op = .fieldAddr s x k) (hx : a.eval x = u) (hr : (Instr.fieldAt s u k).run P w = .ok v w') : (execOp a.eval o).run P w = .ok (.value v) w' := by
  unfold execOp; rw [ho]; simp only [hx, Sem.run_bind, hr, Result.andThen_ok, Sem.run_pure]
theorem exec_lookup {t : TypeId} {x y : Operand} {m k : Value} {ok : Bool} (ho : o.op = .lookup t x y ok) (hx : a.eval x = m) (hy : a.eval y = k) (hr : (Instr.lookup t m k ok).run P w = .ok v w') : (execOp a.eval o).run P w = .ok (.value v) w' := by
  unfold execOp; rw [ho]; simp only [hx, hy, Sem.run_bind, hr, Result.andThen_ok, Sem.run_pure]
theorem exec_buildSlice {t : TypeId} {n : Nat} {ps : Array (Nat × Operand)} {vs : Array (Nat × Value)} (ho : o.op = .buildSlice t n ps) (hp : ps.map (fun p => (p.1, a.eval p.2)) = vs) (hr : (Instr.buildSlice t n vs).run P w = .ok v w') :
    (execOp a.eval o).run P w = .ok (.value v) w' := by
  unfold execOp; rw [ho]; simp only [hp, Sem.run_bind, hr, Result.andThen_ok, Sem.run_pure]
theorem exec_buildSlice1 {t : TypeId} {n i : Nat} {x : Operand} {u : Value} (ho : o.op = .buildSlice t n #[(i, x)]) (hx : a.eval x = u) (hr : (Instr.buildSlice t n #[(i, u)]).run P w = .ok v w') :
    (execOp a.eval o).run P w = .ok (.value v) w' := exec_buildSlice ho (by simp [hx]) hr
theorem exec_append {x y : Operand} {t u : TypeId} {vx vy : Value} (ho : o.op = .call { callee := .builtin .append, args := #[x, y], argTypes := #[t, u] }) (hx : a.eval x = vx) (hy : a.eval y = vy)
    (hr : (Builtin.append_ #[t, u] o.type #[vx, vy]).run P w = .ok v w') : (execOp a.eval o).run P w = .ok (.value v) w' := by
  unfold execOp
  simp only [ho, resolve, invoke, builtin, Sem.run_bind, Sem.run_pure, Result.andThen_ok, List.map_toArray, List.map_cons, List.map_nil, hx, hy, hr]
theorem wpList_append {ops : Array Oper} {rest : List Oper} {Q : Exit → Act → World → Prop} {x y : Operand} {t u : TypeId} {vx vy : Value} (hg : o.guard = none) (ho : o.op = .call { callee := .builtin .append, args := #[x, y], argTypes := #[t, u] }) (hx : a.eval x = vx) (hy : a.eval y = vy)
    (hr : (Builtin.append_ #[t, u] o.type #[vx, vy]).run P w = .ok v w') (h : wpList P ops Q rest (a.put o.dst v) w') : wpList P ops Q (o :: rest) a w := wpList_run hg (exec_append ho hx hy hr) h
theorem exec_mapUpdate {t : TypeId} {x y z : Operand} {m k u : Value} (ho : o.op = .mapUpdate t x y z) (hx : a.eval x = m) (hy : a.eval y = k) (hz : a.eval z = u) (hr : (Instr.mapUpdate t m k u).run P w = .ok () w') :
    (execOp a.eval o).run P w = .ok .skip w' := by
  unfold execOp; rw [ho]; simp only [hx, hy, hz, Sem.run_bind, hr, Result.andThen_ok, Sem.run_pure]
theorem run_load1 {ty : TypeId} {d : TypeDesc} {ad : Addr} (hu : P.underlying ty = some d) (hd : (match d with | .struct _ | .array _ _ => true | _ => false) = false) (hc : w.cell? ad = some v) : (loadVar ty ad).run P w = .ok v w := by
  have h : (isAgg ty).run P w = .ok false w := by
    unfold isAgg
    simp only [Sem.run_bind, run_underlying hu, Result.andThen_ok]
    cases d <;> first | rfl | cases hd
  unfold loadVar
  simp only [Sem.run_bind, h, Result.andThen_ok]
  simp [load, Sem.run, hc]
end
end Go.Proofs.YtnkaegdnjfpliaaGreatDoor

/-! What all texts of this layer lean on: operations out of their runs, calls in regions, rows of cells, append. Nothing of the program is named here. -/
namespace Go.Proofs.YtnkaegdnjfpliaaGreatDoor
set_option linter.unusedSimpArgs false
set_option linter.unusedVariables false
open Go.RowKit

theorem heap_get_alloc (w : World) (o : Obj) (k : Nat) : (w.alloc o).heap[k]? = if k = w.heap.size then some o else w.heap[k]? := by
  show (w.heap.push o)[k]? = _
  rw [Array.getElem?_push]
theorem ownsRow_heap {w w' : World} {base : Nat} {e : TypeId} {size : Nat} {v : Value} {n : Nat} {xs : List Value} (h : w.ownsRow base e size v n xs) (hb : ∀ g, v.ownBlock = some g → w'.heap[g]? = w.heap[g]?) :
    w'.ownsRow base e size v n xs := by
  refine ⟨h.1, ?_⟩
  rcases h.2 with hn | ⟨g, cap, cur, rfl, h1, h2, rest⟩
  · exact .inl hn
  · exact .inr ⟨g, cap, cur, rfl, h1, (hb g rfl).trans h2, rest⟩
theorem cellOf {w : World} {b o : Nat} {cs : Array Value} {t : TypeId} {fr : Nat × Nat} {v : Value} (h : w.heap[b]? = some (.cells cs t fr)) (hv : cs[o]? = some v) : w.cell? ⟨b, o, none⟩ = some v := by
  rw [cell_of_row w b o cs t fr h]; exact hv
theorem freeOf {w : World} {b o : Nat} {cs : Array Value} {t : TypeId} (h : w.heap[b]? = some (.cells cs t (0, 0))) : w.frozen? ⟨b, o, none⟩ = false := frozen_of_row w b o cs t h
section
variable {P : Program} {w w' : World} {a : Act} {o : Oper} {v : Value} {ops : Array Oper} {K : Exit → Act → World → Prop} {S : World → Prop} {fuel : Nat} {listed : Array Bool}
theorem exec_call {f : FuncId} {fn : Func} {xs : List Operand} {ts : Array TypeId} (vs : List Value) (ho : o.op = .call { callee := .value (.func f), args := xs.toArray, argTypes := ts }) (hx : xs.map a.eval = vs)
    (hfn : P.funcs[f]? = some fn) (hb : fn.body.isSome = true) (hn : (fn.name == "runtime.NumGoroutine") = false) : (execOp a.eval o).run P w = .ok (.enter f vs.toArray) w := by
  have hy : a.eval (.func f) = .func (.func f) #[] #[] := rfl
  have hc := enters_plain hfn hb hn vs.toArray w
  unfold execOp
  simp only [ho, resolve, hy, List.map_toArray, hx, Deferred.ofValue, Sem.run_bind, Sem.run_pure, Result.andThen_ok, invoke, Array.empty_append, Array.append_empty]
  exact hc
/-- The one operation that may come up is a call. -/
theorem onlyCall (i d : Nat) {oi : Oper} {f : FuncId} {vs : Array Value} (hi : ops[i]? = some oi) (hdst : oi.dst = some d) (hr : Region.ready .any ops listed = [i]) (hw : Region.wanted oi (yielded ops a.tmps) = true)
    (hx : (execOp a.eval oi).run P w = .ok (.enter f vs) w)
    (h : Calls P f vs w fun e w' => ∃ v, e = .returned v ∧ (lastly ops i = true ∨ S w') ∧ wpE P ops K S fuel (listed.setIfInBounds i true) (a.put (some d) v) w') : wpE P ops K S (fuel + 1) listed a w :=
  only i hi hr hw (by unfold Oper.wp; rw [hx, Oper.upon_enter]; refine h.mono ?_; rintro e w' ⟨v, rfl, hS, hk⟩; exact ⟨hS, hdst ▸ hk⟩)
/-- The last operation is a call that panics. -/
theorem lastPanic (i : Nat) {oi : Oper} {f : FuncId} {vs : Array Value} (hi : ops[i]? = some oi) (hr : Region.ready .any ops listed = [i]) (hw : Region.wanted oi (yielded ops a.tmps) = true) (hl : lastly ops i = true)
    (hx : (execOp a.eval oi).run P w = .ok (.enter f vs) w)
    (h : Calls P f vs w fun e w' => ∃ c, e = .panicked c ∧ K (.panic c) a w') : wpE P ops K S (fuel + 1) listed a w :=
  only i hi hr hw (by
    have : outs ops K i = K := if_pos hl
    rw [this]
    unfold Oper.wp; rw [hx, Oper.upon_enter]; refine h.mono ?_; rintro e w' ⟨c, rfl, hk⟩; exact hk)
/-- One of two operations comes up. -/
theorem either (i j : Nat) (hr : Region.ready .any ops listed = [i, j])
    (h1 : wpOp P ops (outs ops K i) i (fun a' w' => (lastly ops i = true ∨ S w') ∧ wpE P ops K S fuel (listed.setIfInBounds i true) a' w') a w)
    (h2 : wpOp P ops (outs ops K j) j (fun a' w' => (lastly ops j = true ∨ S w') ∧ wpE P ops K S fuel (listed.setIfInBounds j true) a' w') a w) : wpE P ops K S (fuel + 1) listed a w := by
  intro _
  refine ⟨fun h => (by rw [h] at hr; cases hr), fun k hk => ?_⟩
  rw [hr] at hk
  simp only [List.mem_cons, List.not_mem_nil, or_false] at hk
  rcases hk with rfl | rfl
  · exact h1
  · exact h2
theorem opRun {N : Act → World → Prop} (i d : Nat) {oi : Oper} {v : Value} {w' : World} (hi : ops[i]? = some oi) (hdst : oi.dst = some d) (hw : Region.wanted oi (yielded ops a.tmps) = true)
    (hx : (execOp a.eval oi).run P w = .ok (.value v) w') (h : N (a.put (some d) v) w') : wpOp P ops (outs ops K i) i N a w := by
  unfold wpOp
  simp only [hi, hw, if_true]
  exact .inl (by unfold Oper.wp; rw [hx, Oper.upon_value, hdst]; exact h)
theorem opCall {N : Act → World → Prop} (i d : Nat) {oi : Oper} {f : FuncId} {vs : Array Value} (hi : ops[i]? = some oi) (hdst : oi.dst = some d) (hw : Region.wanted oi (yielded ops a.tmps) = true)
    (hx : (execOp a.eval oi).run P w = .ok (.enter f vs) w) (h : Calls P f vs w fun e w' => ∃ v, e = .returned v ∧ N (a.put (some d) v) w') : wpOp P ops (outs ops K i) i N a w := by
  unfold wpOp
  simp only [hi, hw, if_true]
  refine .inl ?_
  unfold Oper.wp; rw [hx, Oper.upon_enter]; refine h.mono ?_; rintro e w' ⟨v, rfl, hk⟩; exact hdst ▸ hk
end

section
variable {P : Program} {a : Act} {w w' : World} {o : Oper} {v : Value}
theorem exec_slice {t : TypeId} {x : Operand} {lo hi mx : Option Operand} {vx : Value} {lo' hi' mx' : Option Value} (ho : o.op = .slice t x lo hi mx) (hx : a.eval x = vx) (hlo : lo.map a.eval = lo') (hhi : hi.map a.eval = hi') (hmx : mx.map a.eval = mx')
    (hr : (Instr.sliceAt t vx lo' hi' mx').run P w = .ok v w') : (execOp a.eval o).run P w = .ok (.value v) w' := by
  unfold execOp; rw [ho]; simp only [hx, hlo, hhi, hmx, Sem.run_bind, hr, Result.andThen_ok, Sem.run_pure]
theorem exec_move {x : Operand} (ho : o.op = .move x) (hx : a.eval x = v) : (execOp a.eval o).run P w = .ok (.value v) w := by
  unfold execOp; rw [ho]; simp only [hx, Sem.run_pure]
end

section
variable {P : Program} {ops : Array Oper} {a : Act} {w : World} {S : World → Prop} {fuel : Nat} {listed : Array Bool} {K : Exit → Act → World → Prop} {o : Oper}
theorem onlyNot (i d : Nat) {oi : Oper} (hi : ops[i]? = some oi) (hdst : oi.dst = some d) (hr : Region.ready .any ops listed = [i]) (hw : Region.wanted oi (yielded ops a.tmps) = false)
    (h : wpE P ops K S fuel (listed.setIfInBounds i true) (a.put (some d) undef) w) (hS : lastly ops i = true ∨ S w) : wpE P ops K S (fuel + 1) listed a w := by
  intro _
  refine ⟨fun h => (by rw [h] at hr; cases hr), fun j hj => ?_⟩
  rw [hr] at hj
  obtain rfl : j = i := by simpa using hj
  unfold wpOp
  simp only [hi, hw]
  exact ⟨hS, hdst ▸ h⟩
theorem exec_bini {op : BinOp} {t t' : TypeId} {x y : Operand} {n m : Int} {v : Value} (ho : o.op = .binOp op t x y t') (hx : a.eval x = .int .i64 n) (hy : a.eval y = .int .i64 m)
    (hr : (binOp op t (.int .i64 n) (.int .i64 m)).run P w = .ok v w) : (execOp a.eval o).run P w = .ok (.value v) w := by
  unfold execOp; rw [ho]; simp only [hx, hy]
  have e : eqGuard op t x y (.int .i64 n) (.int .i64 m) = pure () := by unfold eqGuard; cases op <;> rfl
  simp only [e, Sem.run_bind, Sem.run_pure, Result.andThen_ok, hr]
theorem exec_bins {op : BinOp} {t t' : TypeId} {x y : Operand} {n m : ByteArray} {v : Value} (ho : o.op = .binOp op t x y t') (hx : a.eval x = .string n) (hy : a.eval y = .string m)
    (hr : (binOp op t (.string n) (.string m)).run P w = .ok v w) : (execOp a.eval o).run P w = .ok (.value v) w := by
  unfold execOp; rw [ho]; simp only [hx, hy]
  have e : eqGuard op t x y (.string n) (.string m) = pure () := by unfold eqGuard; cases op <;> rfl
  simp only [e, Sem.run_bind, Sem.run_pure, Result.andThen_ok, hr]
theorem exec_convert {s t : TypeId} {x : Operand} {vx v : Value} {w' : World} (ho : o.op = .convert s t x) (hx : a.eval x = vx) (hr : (convert s t vx).run P w = .ok v w') : (execOp a.eval o).run P w = .ok (.value v) w' := by
  unfold execOp; rw [ho]; simp only [hx, Sem.run_bind, hr, Result.andThen_ok, Sem.run_pure]
end

section
variable {P : Program} {w w' : World} {a : Act} {o : Oper} {v : Value}
theorem exec_makeSlice {t : TypeId} {x y : Operand} {vx vy : Value} (ho : o.op = .makeSlice t x y) (hx : a.eval x = vx) (hy : a.eval y = vy) (hr : (Instr.makeSlice t vx vy).run P w = .ok v w') : (execOp a.eval o).run P w = .ok (.value v) w' := by
  unfold execOp; rw [ho]; simp only [hx, hy, Sem.run_bind, hr, Result.andThen_ok, Sem.run_pure]
theorem exec_assign {x : Operand} (ho : o.op = .assign x) (hx : a.eval x = v) : (execOp a.eval o).run P w = .ok (.value v) w := by
  unfold execOp; rw [ho]; simp only [hx, Sem.run_pure]
end

/-- A call of a function value that captures. -/
theorem exec_callv {P : Program} {w : World} {a : Act} {o : Oper} {f : Operand} {g : FuncId} {fn : Func} {lb : Array Value} {ts : Array TypeId} (ho : o.op = .call { callee := .value f, args := #[], argTypes := ts }) (hf : a.eval f = .func (.func g) #[] lb)
    (hfn : P.funcs[g]? = some fn) (hb : fn.body.isSome = true) (hn : (fn.name == "runtime.NumGoroutine") = false) : (execOp a.eval o).run P w = .ok (.enter g lb) w := by
  have hc := enters_plain hfn hb hn lb w
  unfold execOp
  simp only [ho, resolve, hf, List.map_toArray, List.map_nil, Deferred.ofValue, Sem.run_bind, Sem.run_pure, Result.andThen_ok, invoke, Array.empty_append]
  exact hc
theorem exec_binbb {P : Program} {a : Act} {w : World} {o : Oper} {op : BinOp} {t t' : TypeId} {x y : Operand} {n m : Bool} {v : Value} (ho : o.op = .binOp op t x y t') (hx : a.eval x = .bool n) (hy : a.eval y = .bool m)
    (hr : (binOp op t (.bool n) (.bool m)).run P w = .ok v w) : (execOp a.eval o).run P w = .ok (.value v) w := by
  unfold execOp; rw [ho]; simp only [hx, hy]
  have e : eqGuard op t x y (.bool n) (.bool m) = pure () := by unfold eqGuard; cases op <;> rfl
  simp only [e, Sem.run_bind, Sem.run_pure, Result.andThen_ok, hr]
theorem exec_binp {P : Program} {a : Act} {w : World} {o : Oper} {op : BinOp} {t t' : TypeId} {x y : Operand} {p q : Option Addr} {v : Value} (ho : o.op = .binOp op t x y t') (hx : a.eval x = .pointer p) (hy : a.eval y = .pointer q)
    (hr : (binOp op t (.pointer p) (.pointer q)).run P w = .ok v w) : (execOp a.eval o).run P w = .ok (.value v) w := by
  unfold execOp; rw [ho]; simp only [hx, hy]
  have e : eqGuard op t x y (.pointer p) (.pointer q) = pure () := by unfold eqGuard; cases op <;> rfl
  simp only [e, Sem.run_bind, Sem.run_pure, Result.andThen_ok, hr]
theorem exec_unot {P : Program} {a : Act} {w : World} {o : Oper} {t : TypeId} {x : Operand} {b : Bool} (ho : o.op = .unOp .not t x) (hx : a.eval x = .bool b) : (execOp a.eval o).run P w = .ok (.value (.bool (!b))) w := by
  unfold execOp; rw [ho]; simp [hx, Op.unary]
theorem exec_indexAddr {P : Program} {a : Act} {w w' : World} {o : Oper} {t : TypeId} {x y : Operand} {vx vy v : Value} (ho : o.op = .indexAddr t x y) (hx : a.eval x = vx) (hy : a.eval y = vy) (hr : (Instr.indexAt t vx vy).run P w = .ok v w') :
    (execOp a.eval o).run P w = .ok (.value v) w' := by
  unfold execOp; rw [ho]; simp only [hx, hy, Sem.run_bind, hr, Result.andThen_ok, Sem.run_pure]
theorem exec_binv {P : Program} {a : Act} {w w' : World} {o : Oper} {op : BinOp} {t t' : TypeId} {x y : Operand} {c d : Array Value} {v : Value} (ho : o.op = .binOp op t x y t') (hx : a.eval x = .agg c) (hy : a.eval y = .agg d) (hm : P.eqGuardType P.depth t = false)
    (hr : (binOp op t (.agg c) (.agg d)).run P w = .ok v w') : (execOp a.eval o).run P w = .ok (.value v) w' := by
  unfold execOp; rw [ho]; simp only [hx, hy, Sem.run_bind, run_eqGuard_agg w op t x y c d hm, hr, Result.andThen_ok, Sem.run_pure]
/-! ### bytes as strings -/
def strB (l : List UInt8) : ByteArray := ⟨l.toArray⟩
theorem strB_inj {l m : List UInt8} : strB l = strB m ↔ l = m := by
  constructor
  · intro h; have := congrArg (fun b => b.data.toList) h; simpa [strB] using this
  · rintro rfl; rfl
theorem strB_toList (l : List UInt8) : (strB l).toList = l := by rw [ByteArray.toList_eq]; rfl
theorem foldl_bytes (l : List UInt8) : ∀ s : ByteArray, (l.map fun b => ((b.toNat : Int))).foldl (fun r n => r.push (UInt8.ofNat n.toNat)) s = ⟨s.data ++ l.toArray⟩ := by
  induction l with
  | nil => intro s; simp
  | cons b l ih =>
    intro s
    simp only [List.map_cons, List.foldl_cons]
    rw [ih]
    congr 1
    simp [ByteArray.push]
theorem strB_extract (l : List UInt8) (i j : Nat) : (strB l).extract i j = strB ((l.drop i).take (j - i)) := by
  apply ByteArray.ext
  simp [strB, ByteArray.data_extract]
theorem strB_append (a b : List UInt8) : strB a ++ strB b = strB (a ++ b) := by
  apply ByteArray.ext; simp [strB, ByteArray.data_append]
theorem strB_size (a : List UInt8) : (strB a).size = a.length := rfl
theorem strB_get (l : List UInt8) (j : Nat) (h : j < (strB l).size) : (strB l)[j] = l[j]'(by rw [strB_size] at h; exact h) := rfl

/-! ### append -/
section
variable {P : Program} {w : World}

/-- append of m elements that lie at a. -/
theorem append_law (t ty e : TypeId) (i : TypeInfo) (z : Value) (size bytes : Nat) (ht : P.underlying t = some (.slice e)) (hi : P.info? e = some i) (hz : i.zero = some z)
    (hsize : i.size = size) (hby : i.bytes = bytes) (hzs : z.cells.size = size)
    (v : Value) (n : Nat) (xs : List Value) (hown : w.ownsRow 0 e size v n xs)
    (a : Addr) (m c : Nat) (news : List Value) (hl : news.length = m * size) (hnews : ∀ j u, news[j]? = some u → w.cell? (a.add j) = some u) (h1 : ∀ u ∈ news, u.oneCell' = true)
    (h63 : n + m ≤ maxLen) (hbytes : (n + m) * bytes ≤ 140737488355328) :
    ∃ v' w', (Builtin.append_ #[t, t] ty #[v, .slice (some a) m c]).run P w = .ok v' w' ∧ w'.ownsRow 0 e size v' (n + m) (xs ++ news) ∧ Touch (fun b => v.ownBlock = some b) w w' ∧
      (v'.ownBlock = v.ownBlock ∨ v'.ownBlock = some w.heap.size) ∧ w.heap.size ≤ w'.heap.size := by
  subst hsize
  subst hby
  have hsmall : n + m ≤ 9223372036854775807 := by simp only [maxLen] at h63; omega
  have hlen : (xs ++ news).length = (n + m) * i.size := by rw [List.length_append, hown.1, hl, Nat.add_mul]
  have grown : ∀ (old : Nat), old < n + m → ∀ (S : Nat → Prop),
      (w.drew.alloc (.cells (xs.toArray ++ news.toArray ++ Builtin.zeroCells z.cells (grownCap w (n + m) old e - (n + m))) e)).ownsRow 0 e i.size
        (.slice (some ⟨w.heap.size, 0, none⟩) (n + m) (grownCap w (n + m) old e)) (n + m) (xs ++ news) ∧
      Touch S w (w.drew.alloc (.cells (xs.toArray ++ news.toArray ++ Builtin.zeroCells z.cells (grownCap w (n + m) old e - (n + m))) e)) := by
    intro old ho S
    have hge := grownCap_ge w (n + m) old e
    have hcm : grownCap w (n + m) old e ≤ maxLen := grownCap_le_maxLen w (n + m) old e h63
    refine ⟨⟨hlen, .inr ⟨w.heap.size, _, _, rfl, Nat.zero_le _, heap_alloc_new w.drew _, hge, hcm, ?_, ?_⟩⟩, (Touch.refl S w).drew.alloc _⟩
    · simp only [Array.size_append, List.size_toArray, size_zeroCells, hzs, hown.1, hl, ← Nat.add_mul]
      congr 1
      omega
    · simp only [Array.toList_append, List.append_assoc]
      rw [← List.append_assoc, ← hlen]
      exact List.take_left
  rcases hown.2 with ⟨rfl, rfl⟩ | ⟨g, cap, cur, rfl, hbg, hg, hnc, hcm, hcs, htake⟩
  · have hx : xs = [] := List.eq_nil_of_length_eq_zero (by simpa using hown.1)
    subst hx
    by_cases hm : m = 0
    · subst hm
      have hn : news = [] := List.eq_nil_of_length_eq_zero (by simpa using hl)
      subst hn
      refine ⟨.slice none 0 0, w, ?_, World.ownsRow_nil w 0 e i.size, Touch.refl _ _, .inl rfl, Nat.le_refl _⟩
      simp [Builtin.append_, run_underlying ht, sizeOf, typeInfo, hi, Builtin.lenOf, Builtin.firstCells, loadCells, loadCellsFrom]
    · have hr := run_append_nil (P := P) w t ty e i z ht hi hz a m c news hl hnews (by omega) (by omega) (by have hb := hbytes; simp only [Nat.zero_add] at hb; omega)
      have hgr := grown 0 (by omega) (fun b => Value.ownBlock (.slice none 0 0) = some b)
      simp only [Nat.zero_add, List.nil_append, Array.empty_append] at hgr ⊢
      exact ⟨_, _, hr, hgr.1, hgr.2, .inr rfl, hgr.2.size⟩
  · by_cases hroom : n + m ≤ cap
    · have hfit : n * i.size + news.length ≤ cur.size := by rw [hl, hcs, ← Nat.add_mul]; exact Nat.mul_le_mul_right _ hroom
      have hr := run_append_room (P := P) w t ty e i ht hi g n cap cur hg a m c news hl hnews h1 hroom hfit
      refine ⟨_, _, hr, ⟨hlen, .inr ⟨g, cap, _, rfl, hbg, setRow_heap w g cur _ e _ hg, hroom, hcm, ?_, ?_⟩⟩, ⟨rfl, rfl, rfl, by simp, fun k _ hk => setRow_other w g k _ (fun e => hk (by simp [Value.ownBlock, e]))⟩, .inl rfl, by simp⟩
      · simp only [List.size_toArray, List.length_append, List.length_take, List.length_drop, Array.length_toList]
        omega
      · rw [htake, ← hlen]
        exact List.take_left
    · have holds : ∀ j u, xs[j]? = some u → w.cell? ((⟨g, 0, none⟩ : Addr).add j) = some u := hown.cells (g := g) rfl
      have hr := run_append_grow (P := P) w t ty e i z ht hi hz ⟨g, 0, none⟩ n cap xs hown.1 holds a m c news hl hnews (by omega) (by omega) (growslice_fits (by omega) hbytes)
      have hgr := grown cap (by omega) (fun b => Value.ownBlock (.slice (some ⟨g, 0, none⟩) n cap) = some b)
      exact ⟨_, _, hr, hgr.1, hgr.2, .inr rfl, hgr.2.size⟩

/-- append of nothing that is nil. -/
theorem append_law_nil (t ty e : TypeId) (i : TypeInfo) (size : Nat) (ht : P.underlying t = some (.slice e)) (hi : P.info? e = some i)
    (hsize : i.size = size) (v : Value) (n : Nat) (xs : List Value) (hown : w.ownsRow 0 e size v n xs) :
    (Builtin.append_ #[t, t] ty #[v, .slice none 0 0]).run P w = .ok v w := by
  subst hsize
  rcases hown.2 with ⟨rfl, rfl⟩ | ⟨g, cap, cur, rfl, hbg, hg, hnc, hcm, hcs, htake⟩
  · simp [Builtin.append_, run_underlying ht, sizeOf, typeInfo, hi, Builtin.lenOf, Builtin.firstCells, loadCells, loadCellsFrom]
  · simp [Builtin.append_, run_underlying ht, sizeOf, typeInfo, hi, Builtin.lenOf, hnc, Builtin.firstCells, storeCells]

/-- A row of cells in a block of its own. -/
theorem ownsRow_of_heap {b : Nat} {cs : Array Value} {e : TypeId} {size n cap : Nat} {xs : List Value} (h : w.heap[b]? = some (.cells cs e (0, 0))) (hn : n ≤ cap) (hc : cap ≤ maxLen) (hs : cs.size = cap * size) (hx : cs.toList.take (n * size) = xs) (hl : xs.length = n * size) :
    w.ownsRow 0 e size (.slice (some ⟨b, 0, none⟩) n cap) n xs := ⟨hl, .inr ⟨b, cap, cs, rfl, Nat.zero_le _, h, hn, hc, hs, hx⟩⟩

theorem addr_add (b o j : Nat) : (⟨b, o, none⟩ : Addr).add j = ⟨b, o + j, none⟩ := by unfold Addr.add; split <;> simp_all

/-- What an owned row reads as. -/
theorem ownsRow_cell {e : TypeId} {size n cap : Nat} {a : Addr} {xs : List Value} (h : w.ownsRow 0 e size (.slice (some a) n cap) n xs) (j : Nat) (u : Value) (hu : xs[j]? = some u) : w.cell? (a.add j) = some u := by
  have := h.cells (g := a.block) rfl j u hu
  rcases h.2 with ⟨h', _⟩ | ⟨g, cap', cur, h', _⟩
  · cases h'
  · cases h'; exact this
end

theorem foldl_set_list (l : List Value) : ∀ (k : Nat) (cs : Array Value), k + l.length ≤ cs.size →
    ((l.zipIdx k).foldl (fun cs (p : Value × Nat) => cs.setIfInBounds (0 + p.2) p.1) cs).size = cs.size ∧
    ∀ i, ((l.zipIdx k).foldl (fun cs (p : Value × Nat) => cs.setIfInBounds (0 + p.2) p.1) cs)[i]? = if k ≤ i ∧ i < k + l.length then l[i - k]? else cs[i]? := by
  induction l with
  | nil => intro k cs _; exact ⟨rfl, fun i => by rw [if_neg (by simp only [List.length_nil]; omega)]; rfl⟩
  | cons v l ih =>
    intro k cs h
    simp only [List.length_cons] at h
    obtain ⟨h1, h2⟩ := ih (k + 1) (cs.setIfInBounds (0 + k) v) (by simp; omega)
    simp only [List.zipIdx_cons, List.foldl_cons]
    refine ⟨by rw [h1]; simp, fun i => ?_⟩
    rw [h2]
    by_cases hi : i = k
    · subst hi
      rw [if_neg (by omega), if_pos (by simp), Nat.sub_self, Array.getElem?_setIfInBounds]
      simp; omega
    · by_cases h3 : k + 1 ≤ i ∧ i < k + 1 + l.length
      · rw [if_pos h3, if_pos (by simp only [List.length_cons]; omega)]
        have : i - k = (i - (k + 1)) + 1 := by omega
        rw [this, List.getElem?_cons_succ]
      · rw [if_neg h3, if_neg (by simp only [List.length_cons]; omega), Array.getElem?_setIfInBounds, if_neg (by omega)]
theorem foldl_set (vs cs : Array Value) (h : cs.size = vs.size) : vs.zipIdx.foldl (fun cs (p : Value × Nat) => cs.setIfInBounds (0 + p.2) p.1) cs = vs := by
  have h0 := foldl_set_list vs.toList 0 cs (by simp [h])
  have e : vs.zipIdx.foldl (fun cs (p : Value × Nat) => cs.setIfInBounds (0 + p.2) p.1) cs = (vs.toList.zipIdx 0).foldl (fun cs (p : Value × Nat) => cs.setIfInBounds (0 + p.2) p.1) cs := by
    rw [← Array.foldl_toList, Array.toList_zipIdx]
  rw [e]
  apply Array.ext_getElem?
  intro i
  rw [h0.2 i]
  by_cases hi : i < vs.size
  · rw [if_pos (by simp; omega)]; simp
  · rw [if_neg (by simp; omega), Array.getElem?_eq_none (by omega), Array.getElem?_eq_none (by omega)]
/-- A slice of one element, built. -/
theorem run_buildSlice_one {P : Program} {w : World} {t e : TypeId} {size : Nat} {z v : Value} (ht : P.underlying t = some (.slice e)) (hs : ∀ w, (sizeOf e).run P w = .ok size w) (hz : ∀ w, (zeroValue e).run P w = .ok z w) (hv : v.cells.size = size) (h0 : 0 < size) (h1 : size ≤ 2 ^ 24) :
    (Instr.buildSlice t 1 #[(0, v)]).run P w = .ok (.slice (some ⟨w.heap.size, 0, none⟩) 1 1) (w.alloc (.cells v.cells e)) := by
  have hn : ¬ (1 * size > 2 ^ 24) := by omega
  have hn0 : ¬ (1 * size = 0) := by omega
  have hf : Instr.fill (fun i => some (i * size, size)) ((Array.range (1 * size)).map (z.cells[· % z.cells.size]!)) [(0, v)] = some v.cells := by
    simp only [Instr.fill]
    rw [if_neg (by simp [hv])]
    congr 1
    have := foldl_set v.cells ((Array.range (1 * size)).map (z.cells[· % z.cells.size]!)) (by simp [hv])
    simpa using this
  unfold Instr.buildSlice
  simp only [Sem.run_bind, run_underlying ht, Result.andThen_ok, hs, hn, if_false, hn0, hz, Sem.run_pure, hf]
  rfl

/-! ### rows -/
/-- A row of cells that has a block of its own: its first ones are xs. -/
def RowAt (w : World) (b c : Nat) (e : TypeId) (xs : List Value) : Prop := ∃ cur : Array Value, w.heap[b]? = some (.cells cur e (0, 0)) ∧ cur.size = c ∧ xs.length ≤ c ∧ cur.toList.take xs.length = xs
section
variable {w w' : World} {b c : Nat} {e : TypeId} {xs : List Value}
theorem RowAt.cell (h : RowAt w b c e xs) {j : Nat} {u : Value} (hu : xs[j]? = some u) : w.cell? ⟨b, j, none⟩ = some u := by
  obtain ⟨cur, h1, h2, h3, h4⟩ := h
  refine cellOf h1 ?_
  have hj : j < xs.length := (List.getElem?_eq_some_iff.1 hu).1
  rw [← h4, List.getElem?_take_of_lt hj] at hu
  rw [← hu]; simp
theorem RowAt.free (h : RowAt w b c e xs) (j : Nat) : w.frozen? ⟨b, j, none⟩ = false := by obtain ⟨cur, h1, _⟩ := h; exact freeOf h1
theorem RowAt.lt (h : RowAt w b c e xs) : b < w.heap.size := by obtain ⟨cur, h1, _⟩ := h; exact (Array.getElem?_eq_some_iff.1 h1).1
theorem RowAt.of_heap (h : RowAt w b c e xs) (g : w'.heap[b]? = w.heap[b]?) : RowAt w' b c e xs := by obtain ⟨cur, h1, h2⟩ := h; exact ⟨cur, g.trans h1, h2⟩
theorem RowAt.touch {S : Nat → Prop} (h : RowAt w b c e xs) (g : Touch S w w') (hn : ¬ S b) : RowAt w' b c e xs := by obtain ⟨cur, h1, h2⟩ := h; exact ⟨cur, g.heap h1 hn, h2⟩
theorem RowAt.put (h : RowAt w b c e xs) {j : Nat} (hj : j < xs.length) (v : Value) : RowAt (w.setCell ⟨b, j, none⟩ v) b c e (xs.set j v) := by
  obtain ⟨cur, h1, h2, h3, h4⟩ := h
  refine ⟨_, heap_setCell_same w b j cur e v h1, by simp [h2], by simpa using h3, ?_⟩
  rw [List.length_set, Array.toList_setIfInBounds, List.take_set, h4]
theorem RowAt.other (h : RowAt w b c e xs) {g j : Nat} (hg : b ≠ g) (v : Value) : RowAt (w.setCell ⟨g, j, none⟩ v) b c e xs := h.of_heap (Below.heap_setCell w ⟨g, j, none⟩ v b hg)
theorem RowAt.own {n : Nat} (h : w.ownsRow 0 e 1 (.slice (some ⟨b, 0, none⟩) n c) n xs) : RowAt w b c e xs := by
  obtain ⟨hl, h⟩ := h
  rcases h with ⟨h, _⟩ | ⟨g, cap, cur, h, _, hg, hnc, hcm, hcs, htake⟩
  · cases h
  · cases h
    have hl' : xs.length = n := by rw [hl, Nat.mul_one]
    refine ⟨cur, hg, by rw [hcs, Nat.mul_one], by omega, ?_⟩
    rw [Nat.mul_one] at htake
    rw [hl']; exact htake
end

def strV (l : List UInt8) : Value := .string (strB l)
theorem results_cell_one {P : Program} {fn : Func} {p : Tmp} {ty : TypeId} (h : fn.results = #[.cell p ty]) (tmps : Array Value) (w : World) (ad : Addr) (v : Value)
    (hp : tmps.getD p undef = .pointer (some ad)) (hl : (loadVar ty ad).run P w = .ok v w) : (results fn tmps).run P w = .ok v w := by
  have hp' : tmps[p]?.getD undef = .pointer (some ad) := by simpa using hp
  simp [results, h, hp', asAddr, hl]
theorem ret_bool {a b : Bool} (h : a = b) : Ending.returned (.bool a) = .returned (.bool b) := by rw [h]
theorem ret_int {k : IntKind} {a b : Int} (h : a = b) : Ending.returned (.int k a) = .returned (.int k b) := by rw [h]
theorem ret_str {a b : ByteArray} (h : a = b) : Ending.returned (.string a) = .returned (.string b) := by rw [h]
theorem run_eqStr (P : Program) (t : TypeId) (x y : List UInt8) (W : World) : (binOp .eql t (.string (strB x)) (.string (strB y))).run P W = .ok (.bool (decide (x = y))) W := by
  by_cases h : x = y <;> simp [go_sem, strB_toList, h]
theorem run_neStr (P : Program) (t : TypeId) (x y : List UInt8) (W : World) : (binOp .neq t (.string (strB x)) (.string (strB y))).run P W = .ok (.bool (decide (x ≠ y))) W := by
  by_cases h : x = y <;> simp [go_sem, strB_toList, h]
theorem below_new {w : World} (o : Obj) : Below w.heap.size w (w.alloc o) := (Below.refl _ _).alloc (Nat.le_refl _) _
theorem below_drewN (w : World) (q : Nat) : Below w.heap.size w (w.drewN q) := ⟨rfl, rfl, rfl, Nat.le_refl _, fun _ _ => rfl⟩
theorem below_trans {w w1 w2 : World} (h : Below w.heap.size w w1) (g : Below w1.heap.size w1 w2) : Below w.heap.size w w2 := h.trans (g.mono h.size)
end Go.Proofs.YtnkaegdnjfpliaaGreatDoor

/-! Regions that draw their order, by what stands behind each operation, whatever comes first: no branching over orders. Nothing of the program is named here. -/
namespace Go.Proofs.YtnkaegdnjfpliaaGreatDoor
set_option linter.unusedSimpArgs false
set_option linter.unusedVariables false
open Go.RowKit

section
variable {P : Program} {ops : Array Oper}

/-- How many operations are still to come. -/
def leftN (ops : Array Oper) (listed : Array Bool) : Nat := ((List.range ops.size).filter fun i => !listed.getD i true).length
theorem filter_lt {α : Type} (p q : α → Bool) : ∀ (l : List α), (∀ x ∈ l, q x = true → p x = true) → (∃ x ∈ l, p x = true ∧ q x = false) → (l.filter q).length < (l.filter p).length
  | [], _, h => by obtain ⟨x, hx, _⟩ := h; cases hx
  | a :: l, hm, h => by
    have hle : ∀ (m : List α), (∀ x ∈ m, q x = true → p x = true) → (m.filter q).length ≤ (m.filter p).length := by
      intro m
      induction m with
      | nil => intro _; simp
      | cons b m ih =>
        intro hb
        have i1 := ih fun x hx => hb x (by simp [hx])
        have b1 := hb b (by simp)
        cases hq : q b <;> cases hp : p b <;> simp [List.filter_cons, hq, hp] <;> first | omega | simp_all
    have ha := hm a (by simp)
    have hm' := fun x hx => hm x (List.mem_cons_of_mem _ hx)
    obtain ⟨x, hx, h1, h2⟩ := h
    rcases List.mem_cons.1 hx with rfl | hx
    · have := hle l hm'
      simp [List.filter_cons, h1, h2]; omega
    · have := filter_lt p q l hm' ⟨x, hx, h1, h2⟩
      cases hq : q a <;> cases hp : p a <;> simp [List.filter_cons, hq, hp] <;> first | omega | simp_all
theorem leftN_set {listed : Array Bool} {i : Nat} (hi : i ∈ Region.ready .any ops listed) : leftN ops (listed.setIfInBounds i true) < leftN ops listed := by
  obtain ⟨h0, o, ho, _⟩ := mem_ready.1 hi
  have hlt : i < ops.size := (Array.getElem?_eq_some_iff.1 ho).1
  have hsz : i < listed.size := by
    rcases Nat.lt_or_ge i listed.size with h | h
    · exact h
    · simp [Array.getElem?_eq_none h] at h0
  refine filter_lt _ _ _ (fun j _ hj => ?_) ⟨i, List.mem_range.2 hlt, by simp [h0], by simp [hsz]⟩
  rcases Nat.decEq j i with h | h
  · rw [getD_set_ne true (Ne.symm h)] at hj; exact hj
  · subst h; simp [hsz] at hj
/-- More ways are left than operations: as many as one likes. -/
theorem wpE_fuel {Q : Exit → Act → World → Prop} {S : World → Prop} : ∀ (m n : Nat) (listed : Array Bool) (a : Act) (w : World), wpE P ops Q S n listed a w → leftN ops listed ≤ m → wpE P ops Q S m listed a w
  | 0, n, listed, a, w, h, hm => fun hc => by
    have hr : Region.ready .any ops listed = [] := by
      cases hr : Region.ready .any ops listed with
      | nil => rfl
      | cons i r => have := leftN_set (ops := ops) (listed := listed) (i := i) (by rw [hr]; simp); omega
    cases n with
    | zero => exact h hc
    | succ n => exact ⟨hr, (h hc).1 hr⟩
  | m + 1, n, listed, a, w, h, hm => fun hc => by
    cases n with
    | zero => obtain ⟨h1, h2⟩ := h hc; exact ⟨fun _ => h2, fun i hi => by rw [h1] at hi; cases hi⟩
    | succ n =>
      obtain ⟨h1, h2⟩ := h hc
      refine ⟨h1, fun i hi => wpOp_mono (fun a' w' h' => ⟨h'.1, wpE_fuel m n _ a' w' h'.2 ?_⟩) (h2 i hi)⟩
      have := leftN_set hi; omega

/-- What operation i waits for, from afar too. -/
def deps (ops : Array Oper) (i : Nat) : List Nat := marks ops ops.size (afters ops i)
def dstOf (ops : Array Oper) (i : Nat) : Tmp := ((ops[i]?).bind (·.dst)).getD 0
/-- Each of these operations has a slot of its own. -/
def dstsOk (ops : Array Oper) (M : List Nat) (n : Nat) : Bool := decide ((M.map (dstOf ops)).Nodup) && M.all fun i => decide (((ops[i]?).bind (·.dst)).getD n < n)
theorem dstsOk_lt {M : List Nat} {n i : Nat} (h : dstsOk ops M n = true) (hi : i ∈ M) : ∃ o, ops[i]? = some o ∧ o.dst = some (dstOf ops i) ∧ dstOf ops i < n := by
  have h2 := List.all_eq_true.1 (Bool.and_eq_true_iff.1 h).2 i hi
  simp only [decide_eq_true_eq] at h2
  unfold dstOf
  cases ho : ops[i]? with
  | none => rw [ho] at h2; simp at h2
  | some o =>
    rw [ho] at h2
    simp only [Option.bind_some] at h2 ⊢
    cases hd : o.dst with
    | none => rw [hd] at h2; simp at h2
    | some d => rw [hd] at h2; exact ⟨o, rfl, by rw [hd]; rfl, by simpa using h2⟩
theorem nodup_inj {α β : Type} {f : α → β} : ∀ {l : List α}, (l.map f).Nodup → ∀ {a b : α}, a ∈ l → b ∈ l → f a = f b → a = b
  | [], _, _, _, h, _, _ => by cases h
  | c :: l, hn, a, b, ha, hb, e => by
    rw [List.map_cons, List.nodup_cons] at hn
    rcases List.mem_cons.1 ha with h1 | h1 <;> rcases List.mem_cons.1 hb with h2 | h2
    · rw [h1, h2]
    · exact absurd (List.mem_map.2 ⟨b, h2, by rw [← e, h1]⟩) hn.1
    · exact absurd (List.mem_map.2 ⟨a, h1, by rw [e, h2]⟩) hn.1
    · exact nodup_inj hn.2 h1 h2 e
theorem dstsOk_inj {M : List Nat} {n i j : Nat} (h : dstsOk ops M n = true) (hi : i ∈ M) (hj : j ∈ M) (e : dstOf ops i = dstOf ops j) : i = j :=
  nodup_inj (of_decide_eq_true (Bool.and_eq_true_iff.1 h).1) hi hj e

/-- Each operation waits for earlier ones alone: where nothing is ready all is done. -/
def forward (ops : Array Oper) : Bool := (List.range ops.size).all fun i => (afters ops i).all fun j => decide (j < i)
theorem all_done (hf : forward ops = true) {listed : Array Bool} (hsz : listed.size = ops.size) (hr : Region.ready .any ops listed = []) : ∀ i, i < ops.size → listed.getD i false = true := by
  intro i
  induction i using Nat.strongRecOn with
  | ind i ih =>
    intro hi
    cases hl : listed.getD i false with
    | true => rfl
    | false =>
      exfalso
      have ho : ops[i]? = some ops[i] := Array.getElem?_eq_getElem hi
      have hmem : i ∈ Region.ready .any ops listed := by
        refine mem_ready.2 ⟨?_, _, ho, fun e he hb => ?_⟩
        · have : i < listed.size := by omega
          simp [this] at hl ⊢; exact hl
        · have h1 : e.on ∈ afters ops i := by
            unfold afters; rw [ho]
            exact List.mem_map.2 ⟨e, List.mem_filter.2 ⟨Array.mem_toList_iff.2 he, hb⟩, rfl⟩
          have h2 := List.all_eq_true.1 (List.all_eq_true.1 hf i (List.mem_range.2 hi)) e.on h1
          have h3 := of_decide_eq_true h2
          exact ih _ h3 (by omega)
      rw [hr] at hmem; cases hmem
/-- What an operation that is carried out must leave: its value, in memory that reaches from lo to hi. -/
abbrev OpF := Nat → World → Value → Nat → Nat → Prop
/-- What stands while these operations are on their way. -/
structure AnyI (ops : Array Oper) (M : List Nat) (F : OpF) (a0 : Act) (w0 : World) (l0 listed : Array Bool) (a : Act) (w : World) (v : Nat → Value) (lo hi : Nat → Nat) : Prop where
  defers : a.defers = a0.defers
  size : a.tmps.size = a0.tmps.size
  below : Below w0.heap.size w0 w
  lsize : listed.size = l0.size
  rest : ∀ i, i ∉ M → listed.getD i false = l0.getD i false
  old : ∀ d, (∀ i ∈ M, listed.getD i false = true → dstOf ops i ≠ d) → a.tmps[d]? = a0.tmps[d]?
  new : ∀ i ∈ M, listed.getD i false = true → a.tmps[dstOf ops i]? = some (v i)
  fact : ∀ i ∈ M, listed.getD i false = true → F i w (v i) (lo i) (hi i)
  rng : ∀ i ∈ M, listed.getD i false = true → w0.heap.size ≤ lo i ∧ lo i ≤ hi i ∧ hi i ≤ w.heap.size
  apart : ∀ i ∈ M, ∀ j ∈ M, i ≠ j → listed.getD i false = true → listed.getD j false = true → hi i ≤ lo j ∨ hi j ≤ lo i
/-- What an operation may lean on: what it waits for has its value; other slots are as they were. -/
structure AnyS (ops : Array Oper) (M : List Nat) (F : OpF) (a0 : Act) (w0 : World) (i : Nat) (a : Act) (w : World) (v : Nat → Value) (lo hi : Nat → Nat) : Prop where
  below : Below w0.heap.size w0 w
  cell : ∀ d u, (M.all fun j => dstOf ops j != d) = true → a0.tmps[d]? = some u → a.tmps[d]? = some u
  new : ∀ j, j ∈ M → (deps ops i).contains j = true → a.eval (.tmp (dstOf ops j)) = v j ∧ F j w (v j) (lo j) (hi j) ∧ w0.heap.size ≤ lo j ∧ lo j ≤ hi j ∧ hi j ≤ w.heap.size
  slot : ∀ j, j ∈ M → (deps ops i).contains j = true → a.tmps[dstOf ops j]? = some (v j)
theorem eval_slot {a : Act} {d : Tmp} {u : Value} (h : a.tmps[d]? = some u) : a.eval (.tmp d) = u := by
  show a.tmps.getD d undef = u
  simp [h]
theorem AnyS.old {M : List Nat} {F : OpF} {a0 : Act} {w0 : World} {i : Nat} {a : Act} {w : World} {v : Nat → Value} {lo hi : Nat → Nat} (h : AnyS ops M F a0 w0 i a w v lo hi) (d : Tmp) (u : Value) (h1 : (M.all fun j => dstOf ops j != d) = true) (h2 : a0.tmps[d]? = some u) : a.eval (.tmp d) = u := eval_slot (h.cell d u h1 h2)
theorem two_evals {a : Act} {x y : Operand} {u v : Value} (h1 : a.eval x = u) (h2 : a.eval y = v) : [x, y].map a.eval = [u, v] := by simp [h1, h2]
theorem wanted_slot {o : Oper} {a : Act} {k d : Nat} {b : Bool} (hg : o.guard = some (k, b)) (hd : (ops[k]?).bind (·.dst) = some d) (h : a.tmps[d]? = some (.bool b)) : Region.wanted o (yielded ops a.tmps) = true := by
  unfold Region.wanted yielded
  simp [hg, hd, h]
theorem exec_buildSlice2 {a : Act} {w w' : World} {o : Oper} {v : Value} {t : TypeId} {n i0 i1 : Nat} {x0 x1 : Operand} {u0 u1 : Value} (ho : o.op = .buildSlice t n #[(i0, x0), (i1, x1)]) (h0 : a.eval x0 = u0) (h1 : a.eval x1 = u1)
    (hr : (Instr.buildSlice t n #[(i0, u0), (i1, u1)]).run P w = .ok v w') : (execOp a.eval o).run P w = .ok (.value v) w' := exec_buildSlice ho (by simp [h0, h1]) hr
def allOf (M : List Nat) (l : Array Bool) : Array Bool := M.foldl (fun l i => l.setIfInBounds i true) l
theorem allOf_size (M : List Nat) : ∀ l : Array Bool, (allOf M l).size = l.size := by
  unfold allOf
  induction M with
  | nil => intro l; rfl
  | cons i M ih => intro l; rw [List.foldl_cons, ih]; simp
theorem allOf_get (M : List Nat) : ∀ (l : Array Bool) (i : Nat), i < l.size → (allOf M l)[i]? = if i ∈ M then some true else l[i]? := by
  unfold allOf
  induction M with
  | nil => intro l i _; simp
  | cons j M ih =>
    intro l i hi
    rw [List.foldl_cons, ih _ _ (by simpa using hi), Array.getElem?_setIfInBounds]
    by_cases h1 : i ∈ M
    · simp [h1]
    · rw [if_neg h1]
      by_cases h2 : j = i
      · subst h2; simp [hi]
      · rw [if_neg h2, if_neg (by simp [h1]; omega)]
/-- These operations in whatever order: each leaves its value, given those that it waits for; memory that stood is left as it was. All others that are still to come wait for all of these. -/
theorem any_order (M : List Nat) (F : OpF) {K : Exit → Act → World → Prop} {S : World → Prop} {a0 : Act} {w0 : World} {l0 : Array Bool} {fuel : Nat} (n1 : Nat)
    (hfw : forward ops = true) (hd : dstsOk ops M a0.tmps.size = true) (hsz : l0.size = ops.size)
    (hM : ((List.range ops.size).all fun i => l0.getD i false || M.contains i || M.all (deps ops i).contains) = true) (hM0 : (M.all fun i => !l0.getD i true) = true)
    (hn : leftN ops l0 ≤ fuel) (hS : ∀ w, Below w0.heap.size w0 w → S w)
    (hF : ∀ i ∈ M, ∀ (w w' : World) (v : Value) (lo hi : Nat), hi ≤ w.heap.size → Below w.heap.size w w' → F i w v lo hi → F i w' v lo hi)
    (hstep : ∀ i ∈ M, ∀ (a : Act) (w : World) (v : Nat → Value) (lo hi : Nat → Nat), AnyS ops M F a0 w0 i a w v lo hi →
      wpOp P ops (outs ops K i) i (fun a' w' => ∃ u, a' = a.put (some (dstOf ops i)) u ∧ Below w.heap.size w w' ∧ F i w' u w.heap.size w'.heap.size) a w)
    (ds : List Nat) (hds : M.map (dstOf ops) = ds) (hend : ∀ (v : Nat → Value) (lo hi : Nat → Nat) (w : World), Below w0.heap.size w0 w → (∀ i ∈ M, F i w (v i) (lo i) (hi i) ∧ w0.heap.size ≤ lo i ∧ lo i ≤ hi i ∧ hi i ≤ w.heap.size) →
      (∀ i ∈ M, ∀ j ∈ M, i ≠ j → hi i ≤ lo j ∨ hi j ≤ lo i) → wpE P ops K S n1 (allOf M l0) ((M.zip ds).foldl (fun a p => a.put (some p.2) (v p.1)) a0) w) :
    wpE P ops K S fuel l0 a0 w0 := by
  have fin : ∀ listed a w v lo hi, AnyI ops M F a0 w0 l0 listed a w v lo hi → (∀ i ∈ M, listed.getD i false = true) → ∀ fuel, leftN ops listed ≤ fuel → wpE P ops K S fuel listed a w := by
    intro listed a w v lo hi I hall fuel hfu
    have h := hend v lo hi w I.below (fun i hi1 => ⟨I.fact i hi1 (hall i hi1), I.rng i hi1 (hall i hi1)⟩) (fun i h1 j h2 hne => I.apart i h1 j h2 hne (hall i h1) (hall j h2))
    have el : allOf M l0 = listed := by
      apply Array.ext_getElem?
      intro i
      rcases Nat.lt_or_ge i l0.size with hlt | hge
      · rw [allOf_get M l0 i hlt]
        by_cases hm : i ∈ M
        · rw [if_pos hm]
          have := hall i hm
          rw [← I.lsize] at hlt
          simp [hlt] at this ⊢; exact this
        · rw [if_neg hm]
          have := I.rest i hm
          have hlt' := hlt; rw [← I.lsize] at hlt'
          simp [hlt, hlt'] at this ⊢; exact this.symm
      · rw [Array.getElem?_eq_none (by rw [allOf_size]; exact hge), Array.getElem?_eq_none (by rw [I.lsize]; exact hge)]
    have e : M.foldl (fun a i => a.put (some (dstOf ops i)) (v i)) a0 = a := by
      have gen : ∀ (l : List Nat), (∀ i ∈ l, i ∈ M) → ∀ (b : Act), b.defers = a0.defers → b.tmps.size = a0.tmps.size →
          (∀ d, b.tmps[d]? = a.tmps[d]? ∨ (b.tmps[d]? = a0.tmps[d]? ∧ (a.tmps[d]? = a0.tmps[d]? ∨ ∃ i ∈ l, dstOf ops i = d))) → l.foldl (fun a i => a.put (some (dstOf ops i)) (v i)) b = a := by
        intro l
        induction l with
        | nil =>
          intro _ b hb1 hb2 hb
          have : b.tmps = a.tmps := by
            apply Array.ext_getElem?
            intro d
            rcases hb d with h | ⟨h, h' | ⟨p, hp, _⟩⟩
            · exact h
            · rw [h, h']
            · cases hp
          have hde := I.defers
          cases b; cases a; simp only at this hb1 hde; subst this; rw [List.foldl_nil, hb1, hde]
        | cons p l ih =>
          intro hl b hb1 hb2 hb
          rw [List.foldl_cons]
          have hp := hl p (by simp)
          have hnew := I.new p hp (hall _ hp)
          obtain ⟨_, _, _, hlt2⟩ := dstsOk_lt hd hp
          refine ih (fun q hq => hl q (by simp [hq])) _ hb1 (by simpa [Act.put] using hb2) fun d => ?_
          show (b.tmps.setIfInBounds (dstOf ops p) (v p))[d]? = _ ∨ (b.tmps.setIfInBounds (dstOf ops p) (v p))[d]? = _ ∧ _
          rw [Array.getElem?_setIfInBounds]
          by_cases hpd : dstOf ops p = d
          · rw [if_pos hpd, if_pos (by rw [hb2]; exact hlt2)]
            left; rw [← hpd, hnew]
          · rw [if_neg hpd]
            rcases hb d with h | ⟨h, h' | ⟨q, hq, hqd⟩⟩
            · exact .inl h
            · exact .inr ⟨h, .inl h'⟩
            · rcases List.mem_cons.1 hq with rfl | hq
              · exact absurd hqd hpd
              · exact .inr ⟨h, .inr ⟨q, hq, hqd⟩⟩
      refine gen M (fun _ h => h) a0 rfl rfl fun d => .inr ⟨rfl, ?_⟩
      by_cases hx : ∃ i ∈ M, dstOf ops i = d
      · exact .inr hx
      · exact .inl (I.old d fun i h1 _ h3 => hx ⟨i, h1, h3⟩)
    have ez : ∀ (l : List Nat) (b : Act), (l.zip (l.map (dstOf ops))).foldl (fun a p => a.put (some p.2) (v p.1)) b = l.foldl (fun a i => a.put (some (dstOf ops i)) (v i)) b := by
      intro l
      induction l with
      | nil => intro b; rfl
      | cons i l ih => intro b; rw [List.map_cons, List.zip_cons_cons, List.foldl_cons, List.foldl_cons]; exact ih _
    rw [← hds, ez, el, e] at h
    exact wpE_fuel fuel n1 _ _ _ h hfu
  have key : ∀ (fuel : Nat) (listed : Array Bool) (a : Act) (w : World), leftN ops listed ≤ fuel → (∃ v lo hi, AnyI ops M F a0 w0 l0 listed a w v lo hi) → wpE P ops K S fuel listed a w := by
    intro fuel
    induction fuel with
    | zero =>
      rintro listed a w hl ⟨v, lo, hi, I⟩
      refine fin _ _ _ _ _ _ I (fun i hi1 => ?_) _ hl
      cases hx : listed.getD i false with
      | true => rfl
      | false =>
        exfalso
        obtain ⟨o, ho, _⟩ := dstsOk_lt hd hi1
        have hlt : i < ops.size := (Array.getElem?_eq_some_iff.1 ho).1
        have hlt2 : i < listed.size := by rw [I.lsize, hsz]; exact hlt
        have : i ∈ (List.range ops.size).filter fun i => !listed.getD i true := by
          refine List.mem_filter.2 ⟨List.mem_range.2 hlt, ?_⟩
          simp [hlt2] at hx ⊢; exact hx
        have h0 : ((List.range ops.size).filter fun i => !listed.getD i true) = [] := List.length_eq_zero_iff.1 (Nat.le_zero.1 hl)
        rw [h0] at this; cases this
    | succ fuel ih =>
      rintro listed a w hl ⟨v, lo, hi, I⟩
      by_cases hall : ∀ i ∈ M, listed.getD i false = true
      · exact fin _ _ _ _ _ _ I hall _ hl
      · intro hc
        refine ⟨fun hr => ?_, fun i hr => ?_⟩
        · exfalso
          refine hall fun i hi1 => ?_
          obtain ⟨o, ho, _⟩ := dstsOk_lt hd hi1
          exact all_done hfw (by rw [I.lsize, hsz]) hr i (Array.getElem?_eq_some_iff.1 ho).1
        · obtain ⟨hl0, o, ho, _⟩ := mem_ready.1 hr
          have hi1 : i < ops.size := (Array.getElem?_eq_some_iff.1 ho).1
          have hno := listed_no hl0
          have him : i ∈ M := by
            have h1 := List.all_eq_true.1 hM i (List.mem_range.2 hi1)
            simp only [Bool.or_eq_true] at h1
            rcases h1 with (h1 | h1) | h1
            · by_cases hm : i ∈ M
              · exact hm
              · rw [← I.rest i hm] at h1; exact absurd h1 hno
            · simpa using h1
            · exact absurd (fun j hj => marks_listed hc _ _ (afters_listed hr) j (List.contains_iff_mem.1 (List.all_eq_true.1 h1 j hj))) hall
          refine wpOp_mono ?_ (hstep i him a w v lo hi ⟨I.below, fun d u hd' hu => ?_, fun j hj hjd => ?_, fun j hj hjd => ?_⟩)
          · rintro a' w' ⟨u, rfl, hb, hf⟩
            have hb0 : Below w0.heap.size w0 w' := I.below.trans (hb.mono I.below.size)
            refine ⟨.inr (hS _ hb0), ih _ _ _ (by have := leftN_set hr; omega) ?_⟩
            have hlt : listed.size > i := by rw [I.lsize, hsz]; exact hi1
            have hset : ∀ k, (listed.setIfInBounds i true).getD k false = true → k = i ∨ listed.getD k false = true := by
              intro k hk
              rcases Nat.decEq k i with h | h
              · rw [getD_set_ne false (Ne.symm h)] at hk; exact .inr hk
              · exact .inl h
            have hne : ∀ k ∈ M, k ≠ i → dstOf ops k ≠ dstOf ops i := fun k hk hki e => hki (dstsOk_inj hd hk him e)
            refine ⟨fun k => if k = i then u else v k, fun k => if k = i then w.heap.size else lo k, fun k => if k = i then w'.heap.size else hi k, ?_⟩
            refine ⟨I.defers, by simpa [Act.put] using I.size, hb0, by simpa using I.lsize, fun k hk => ?_, fun d hd' => ?_, fun k hk hk1 => ?_, fun k hk hk1 => ?_, fun k hk hk1 => ?_, fun k hk j hj hkj hk1 hj1 => ?_⟩
            · have hki : i ≠ k := fun e => hk (e ▸ him)
              rw [getD_set_ne false hki]; exact I.rest k hk
            · have hdi : dstOf ops i ≠ d := hd' i him (by simp [hlt])
              show (a.tmps.setIfInBounds (dstOf ops i) u)[d]? = _
              rw [Array.getElem?_setIfInBounds, if_neg hdi]
              exact I.old d fun k hk hk1 => hd' k hk (getD_set_true hk1)
            · show (a.tmps.setIfInBounds (dstOf ops i) u)[dstOf ops k]? = _
              rcases Nat.decEq k i with h | h
              · rw [Array.getElem?_setIfInBounds, if_neg (Ne.symm (hne k hk h)), if_neg h]
                exact I.new k hk ((hset k hk1).resolve_left h)
              · subst h
                obtain ⟨_, _, _, hlt2⟩ := dstsOk_lt hd hk
                rw [Array.getElem?_setIfInBounds, if_pos rfl, if_pos (by rw [I.size]; exact hlt2), if_pos rfl]
            · rcases Nat.decEq k i with h | h
              · simp only [if_neg h]
                have hk1' := (hset k hk1).resolve_left h
                exact hF k hk _ _ _ _ _ (I.rng k hk hk1').2.2 hb (I.fact k hk hk1')
              · subst h; simpa using hf
            · rcases Nat.decEq k i with h | h
              · simp only [if_neg h]
                have := I.rng k hk ((hset k hk1).resolve_left h)
                have := hb.size; omega
              · subst h
                simp only [if_true]
                have := I.below.size; have := hb.size; omega
            · rcases Nat.decEq k i with h | h <;> rcases Nat.decEq j i with h' | h'
              · simp only [if_neg h, if_neg h']
                exact I.apart k hk j hj hkj ((hset k hk1).resolve_left h) ((hset j hj1).resolve_left h')
              · subst h'; simp only [if_neg h, if_true]
                have := I.rng k hk ((hset k hk1).resolve_left h); omega
              · subst h; simp only [if_neg h', if_true]
                have := I.rng j hj ((hset j hj1).resolve_left h'); omega
              · omega
          · refine (I.old d fun k hk _ e => ?_).trans hu
            have := List.all_eq_true.1 hd' k hk
            simp only [bne_iff_ne, ne_eq] at this
            exact this e
          · have hlj : listed.getD j false = true := marks_listed hc _ _ (afters_listed hr) j (List.contains_iff_mem.1 hjd)
            exact ⟨eval_slot (I.new j hj hlj), I.fact j hj hlj, I.rng j hj hlj⟩
          · exact I.new j hj (marks_listed hc _ _ (afters_listed hr) j (List.contains_iff_mem.1 hjd))
  refine key fuel l0 a0 w0 hn ⟨fun _ => undef, fun _ => 0, fun _ => 0, rfl, rfl, Below.refl _ _, rfl, fun _ _ => rfl, fun _ _ => rfl, fun i hi1 h => ?_, fun i hi1 h => ?_, fun i hi1 h => ?_, fun i hi1 j _ _ h _ => ?_⟩
  all_goals
    have h0 := List.all_eq_true.1 hM0 i hi1
    have := listed_no (i := i) (listed := l0) (by simpa using h0)
    exact absurd h this
end
end Go.Proofs.YtnkaegdnjfpliaaGreatDoor

/-! Values as lists of bytes and numbers: their order. Plain: nothing of the program is named here. -/
namespace Go.Proofs.YtnkaegdnjfpliaaGreatDoor
set_option linter.unusedSimpArgs false
set_option linter.unusedVariables false

/-- A value: its kind, truth, number, text, keys, list. -/
inductive V where
  | mk (kind : Int) (b : Bool) (n : Int) (text : List UInt8) (keys : List (List UInt8)) (list : List V)
namespace V
def kind : V → Int | mk k _ _ _ _ _ => k
def b : V → Bool | mk _ b _ _ _ _ => b
def n : V → Int | mk _ _ n _ _ _ => n
def text : V → List UInt8 | mk _ _ _ t _ _ => t
def keys : V → List (List UInt8) | mk _ _ _ _ ks _ => ks
def list : V → List V | mk _ _ _ _ _ l => l
/-- What holds of a value if it holds of those in its list. -/
theorem ind {P : V → Prop} (h : ∀ k b n t ks l, (∀ v ∈ l, P v) → P (mk k b n t ks l)) : ∀ v, P v := by
  intro v
  refine V.rec (motive_1 := P) (motive_2 := fun l => ∀ v ∈ l, P v) (fun k b n t ks l ih => h k b n t ks l ih) (fun v hv => by cases hv) (fun v l hv hl u hu => ?_) v
  rcases List.mem_cons.1 hu with rfl | hu
  · exact hv
  · exact hl u hu
end V

/-! ### Orders of numbers, bytes, lists -/
def cmpI (a b : Int) : Int := if a < b then -1 else if b < a then 1 else 0
def cmpL {α : Type} (f : α → α → Int) : List α → List α → Int
  | [], [] => 0
  | [], _ :: _ => -1
  | _ :: _, [] => 1
  | a :: x, b :: y => if f a b ≠ 0 then f a b else cmpL f x y
def cmpB (a b : List UInt8) : Int := cmpL (fun x y : UInt8 => cmpI x.toNat y.toNat) a b
/-- The place of a kind. -/
def rankV (k : Int) : Int := if k = 0 then 7 else if k = 2 then 6 else if k = 1 then 5 else if k = 3 then 4 else if k = 4 then 3 else if k = 7 then 2 else if k = 6 then 1 else 0
def b2i (b : Bool) : Int := if b then 1 else 0
/-- The first that is not nought. -/
def orI (a b : Int) : Int := if a ≠ 0 then a else b

/-- What an order must be at a: it tells -1, 0 or 1, is its opposite turned about, and leads on. -/
structure OrdAt {α : Type} (f : α → α → Int) (a : α) : Prop where
  range : ∀ b, f a b = -1 ∨ f a b = 0 ∨ f a b = 1
  anti : ∀ b, f b a = - f a b
  congr : ∀ b c, f a b = 0 → f a c = f b c
  chain : ∀ b c, f a b = -1 → f b c ≤ 0 → f a c = -1
theorem cmpI_cases (a b : Int) : (a < b ∧ cmpI a b = -1) ∨ (a = b ∧ cmpI a b = 0) ∨ (b < a ∧ cmpI a b = 1) := by
  unfold cmpI
  by_cases h1 : a < b
  · exact .inl ⟨h1, by rw [if_pos h1]⟩
  · by_cases h2 : b < a
    · exact .inr (.inr ⟨h2, by rw [if_neg h1, if_pos h2]⟩)
    · exact .inr (.inl ⟨by omega, by rw [if_neg h1, if_neg h2]⟩)
theorem ord_cmpI (a : Int) : OrdAt cmpI a := by
  refine ⟨fun b => ?_, fun b => ?_, fun b c h => ?_, fun b c h g => ?_⟩
  · rcases cmpI_cases a b with ⟨_, h⟩ | ⟨_, h⟩ | ⟨_, h⟩ <;> simp [h]
  · rcases cmpI_cases a b with ⟨_, h⟩ | ⟨_, h⟩ | ⟨_, h⟩ <;> rcases cmpI_cases b a with ⟨_, g⟩ | ⟨_, g⟩ | ⟨_, g⟩ <;> rw [h, g] <;> omega
  · rcases cmpI_cases a b with ⟨_, e⟩ | ⟨e, _⟩ | ⟨_, e⟩
    · omega
    · rw [e]
    · omega
  · rcases cmpI_cases a b with ⟨h1, e⟩ | ⟨h1, e⟩ | ⟨h1, e⟩ <;> rcases cmpI_cases b c with ⟨h2, e2⟩ | ⟨h2, e2⟩ | ⟨h2, e2⟩ <;> rcases cmpI_cases a c with ⟨h3, e3⟩ | ⟨h3, e3⟩ | ⟨h3, e3⟩ <;> omega
/-- Pulled back along a function. -/
theorem ord_pull {α β : Type} {f : β → β → Int} (g : α → β) {a : α} (h : OrdAt f (g a)) : OrdAt (fun x y => f (g x) (g y)) a :=
  ⟨fun b => h.range _, fun b => h.anti _, fun b c => h.congr _ _, fun b c => h.chain _ _⟩
/-- One behind the other. -/
theorem ord_or {α : Type} {f g : α → α → Int} {a : α} (hf : OrdAt f a) (hg : OrdAt g a) : OrdAt (fun x y => orI (f x y) (g x y)) a := by
  refine ⟨fun b => ?_, fun b => ?_, fun b c h => ?_, fun b c h hc => ?_⟩
  · unfold orI; split
    · exact hf.range b
    · exact hg.range b
  · unfold orI
    rw [hf.anti b, hg.anti b]
    by_cases h : f a b = 0
    · simp [h]
    · have h' : - f a b ≠ 0 := by omega
      rw [if_pos h', if_pos h]
  · unfold orI at h ⊢
    by_cases e : f a b = 0
    · rw [if_neg (by omega)] at h
      rw [hf.congr b c e, hg.congr b c h]
    · rw [if_pos e] at h; omega
  · unfold orI at h hc ⊢
    by_cases e : f a b = 0
    · rw [if_neg (by omega)] at h
      rw [hf.congr b c e]
      by_cases e2 : f b c = 0
      · rw [if_neg (by omega)] at hc
        rw [if_neg (by omega)]
        exact hg.chain b c h hc
      · rw [if_pos e2] at hc
        rw [if_pos e2]
        have := hf.range c
        rw [hf.congr b c e] at this
        omega
    · rw [if_pos e] at h
      have h2 : f b c ≤ 0 := by
        by_cases e2 : f b c = 0
        · omega
        · rw [if_pos e2] at hc; exact hc
      have := hf.chain b c h h2
      rw [if_pos (by omega)]; exact this
/-- Lists, element by element. -/
theorem ord_cmpL {α : Type} {f : α → α → Int} : ∀ (l : List α), (∀ a ∈ l, OrdAt f a) → OrdAt (cmpL f) l := by
  intro l
  induction l with
  | nil =>
    intro _
    refine ⟨fun b => ?_, fun b => ?_, fun b c h => ?_, fun b c h g => ?_⟩
    · cases b <;> simp [cmpL]
    · cases b <;> simp [cmpL]
    · cases b with
      | nil => rfl
      | cons => simp [cmpL] at h
    · cases b with
      | nil => simp [cmpL] at h
      | cons => cases c with
        | nil => simp [cmpL] at g
        | cons => simp [cmpL]
  | cons a x ih =>
    intro hl
    have ha := hl a (by simp)
    have hx := ih fun y hy => hl y (by simp [hy])
    refine ⟨fun b => ?_, fun b => ?_, fun b c h => ?_, fun b c h g => ?_⟩
    · cases b with
      | nil => simp [cmpL]
      | cons b y =>
        unfold cmpL
        split
        · exact ha.range b
        · exact hx.range y
    · cases b with
      | nil => simp [cmpL]
      | cons b y =>
        unfold cmpL
        rw [ha.anti b, hx.anti y]
        by_cases e : f a b = 0
        · simp [e]
        · rw [if_pos (by omega), if_pos e]
    · cases b with
      | nil => simp [cmpL] at h
      | cons b y =>
        unfold cmpL at h
        by_cases e : f a b = 0
        · rw [if_neg (by omega)] at h
          cases c with
          | nil => simp [cmpL]
          | cons c z =>
            unfold cmpL
            rw [ha.congr b c e, hx.congr y z h]
        · rw [if_pos e] at h; omega
    · cases b with
      | nil => simp [cmpL] at h
      | cons b y =>
        cases c with
        | nil => simp [cmpL] at g
        | cons c z =>
          unfold cmpL at h g ⊢
          by_cases e : f a b = 0
          · rw [if_neg (by omega)] at h
            rw [ha.congr b c e]
            by_cases e2 : f b c = 0
            · rw [if_neg (by omega)] at g
              rw [if_neg (by omega)]
              exact hx.chain y z h g
            · rw [if_pos e2] at g
              rw [if_pos e2]
              have := ha.range c
              rw [ha.congr b c e] at this
              omega
          · rw [if_pos e] at h
            have h2 : f b c ≤ 0 := by
              by_cases e2 : f b c = 0
              · omega
              · rw [if_pos e2] at g; exact g
            have := ha.chain b c h h2
            rw [if_pos (by omega)]; exact this

mutual
/-- The order of values. -/
def cmpV : V → V → Int
  | .mk k b n t ks l, v => orI (cmpI (rankV k) (rankV v.kind)) (orI (cmpI (b2i b) (b2i v.b)) (orI (cmpB t v.text) (orI (cmpL cmpB ks v.keys) (orI (cmpVs l v.list) (cmpI n v.n)))))
def cmpVs : List V → List V → Int
  | [], [] => 0
  | [], _ :: _ => -1
  | _ :: _, [] => 1
  | a :: x, b :: y => if cmpV a b ≠ 0 then cmpV a b else cmpVs x y
end
theorem cmpVs_eq : ∀ l m : List V, cmpVs l m = cmpL cmpV l m := by
  intro l
  induction l with
  | nil => intro m; cases m <;> simp [cmpVs, cmpL]
  | cons a x ih => intro m; cases m <;> simp [cmpVs, cmpL, ih]
theorem cmpV_eq (a v : V) : cmpV a v = orI (cmpI (rankV a.kind) (rankV v.kind)) (orI (cmpI (b2i a.b) (b2i v.b)) (orI (cmpB a.text v.text) (orI (cmpL cmpB a.keys v.keys) (orI (cmpL cmpV a.list v.list) (cmpI a.n v.n))))) := by
  cases a; simp [cmpV, cmpVs_eq, V.kind, V.b, V.text, V.keys, V.list, V.n]
theorem ord_cmpB (l : List UInt8) : OrdAt cmpB l := ord_cmpL l fun a _ => ord_pull (f := cmpI) (fun x : UInt8 => (x.toNat : Int)) (ord_cmpI _)
theorem ord_cmpV : ∀ a : V, OrdAt cmpV a := by
  refine V.ind fun k b n t ks l ih => ?_
  have e : cmpV = fun x y => orI (cmpI (rankV x.kind) (rankV y.kind)) (orI (cmpI (b2i x.b) (b2i y.b)) (orI (cmpB x.text y.text) (orI (cmpL cmpB x.keys y.keys) (orI (cmpL cmpV x.list y.list) (cmpI x.n y.n))))) := by
    funext x y; exact cmpV_eq x y
  have h : OrdAt (cmpL cmpV) l := ord_cmpL l ih
  rw [e]
  exact ord_or (ord_pull (fun x : V => rankV x.kind) (ord_cmpI _)) (ord_or (ord_pull (fun x : V => b2i x.b) (ord_cmpI _)) (ord_or (ord_pull V.text (ord_cmpB _)) (ord_or (ord_pull V.keys (ord_cmpL _ fun a _ => ord_cmpB a)) (ord_or (ord_pull V.list h) (ord_pull V.n (ord_cmpI _))))))
/-! What is at one place is the same. -/
theorem cmpI_zero {a b : Int} (h : cmpI a b = 0) : a = b := by rcases cmpI_cases a b with ⟨_, e⟩ | ⟨e, _⟩ | ⟨_, e⟩ <;> omega
theorem orI_zero {a b : Int} (h : orI a b = 0) : a = 0 ∧ b = 0 := by
  unfold orI at h
  by_cases e : a = 0
  · rw [if_neg (by omega)] at h; exact ⟨e, h⟩
  · rw [if_pos e] at h; exact absurd h e
theorem cmpL_zero {α : Type} {f : α → α → Int} : ∀ {l m : List α}, (∀ a ∈ l, ∀ b, f a b = 0 → a = b) → cmpL f l m = 0 → l = m
  | [], [], _, _ => rfl
  | [], _ :: _, _, h => by simp [cmpL] at h
  | _ :: _, [], _, h => by simp [cmpL] at h
  | a :: x, b :: y, hz, h => by
    unfold cmpL at h
    by_cases e : f a b = 0
    · rw [if_neg (by omega)] at h
      rw [hz a (by simp) b e, cmpL_zero (fun a ha => hz a (by simp [ha])) h]
    · rw [if_pos e] at h; exact absurd h e
theorem cmpB_zero {l m : List UInt8} (h : cmpB l m = 0) : l = m := cmpL_zero (fun a _ b e => by have := cmpI_zero e; exact UInt8.toNat_inj.1 (by omega)) h
theorem b2i_inj {a b : Bool} (h : b2i a = b2i b) : a = b := by cases a <;> cases b <;> simp [b2i] at h ⊢
theorem cmpL_self {α : Type} {f : α → α → Int} (l : List α) (h : ∀ a ∈ l, f a a = 0) : cmpL f l l = 0 := by
  induction l with
  | nil => rfl
  | cons a x ih =>
    unfold cmpL
    rw [if_neg (by rw [h a (by simp)]; simp)]
    exact ih fun b hb => h b (by simp [hb])
theorem OrdAt.self {α : Type} {f : α → α → Int} {a : α} (h : OrdAt f a) : f a a = 0 := by have := h.anti a; omega

/-! ### Which values may be -/
/-- Is the byte at a place one of 80 to BF? -/
def moreB (l : List UInt8) (i : Nat) : Bool := match l[i]? with
  | some x => decide (128 ≤ x.toNat) && decide (x.toNat ≤ 191)
  | none => false
def byteN (l : List UInt8) (i : Nat) : Nat := match l[i]? with
  | some x => x.toNat
  | none => 0
/-- How many bytes the rune at a place has; nought: there is none. -/
def runeL (l : List UInt8) (i : Nat) : Nat :=
  if byteN l i < 128 then 1
  else if (decide (194 ≤ byteN l i) && decide (byteN l i ≤ 223) && moreB l (i + 1)) = true then 2
  else if (decide (224 ≤ byteN l i) && decide (byteN l i ≤ 239) && moreB l (i + 1) && moreB l (i + 2)) = true then
    (if ((byteN l i == 224 && decide (byteN l (i + 1) < 160)) || (byteN l i == 237 && decide (159 < byteN l (i + 1)))) = true then 0 else 3)
  else if (decide (240 ≤ byteN l i) && decide (byteN l i ≤ 244) && moreB l (i + 1) && moreB l (i + 2) && moreB l (i + 3)) = true then
    (if ((byteN l i == 240 && decide (byteN l (i + 1) < 144)) || (byteN l i == 244 && decide (143 < byteN l (i + 1)))) = true then 0 else 4)
  else 0
def ltB (a b : List UInt8) : Bool := cmpB a b == -1
/-- Keys rise. -/
def risesB : List (List UInt8) → Bool
  | [] => true
  | [_] => true
  | a :: b :: r => ltB a b && risesB (b :: r)
/-- What a value's kind does not use is nought. -/
def bareV (v : V) : Bool :=
  (v.kind == 1 || !v.b) && (v.kind == 2 || v.kind == 6 || v.kind == 7 || v.n == 0) && (v.kind == 3 || v.text.isEmpty) && (v.kind == 5 || v.keys.isEmpty) && (v.kind == 4 || v.kind == 5 || v.list.isEmpty)
/-- May a value alone be, where `u` tells which texts may be? -/
def oneV (u : List UInt8 → Bool) (v : V) : Bool :=
  decide (0 ≤ v.kind) && decide (v.kind ≤ 7) && bareV v && (!(v.kind == 6 || v.kind == 7) || decide (0 ≤ v.n)) && u v.text && (!(v.kind == 5) || v.keys.length == v.list.length) && v.keys.all u && risesB v.keys
mutual
def mayV (u : List UInt8 → Bool) : V → Bool
  | .mk k b n t ks l => oneV u (.mk k b n t ks l) && mayVs u l
def mayVs (u : List UInt8 → Bool) : List V → Bool
  | [] => true
  | a :: x => mayV u a && mayVs u x
end
theorem mayVs_iff {u : List UInt8 → Bool} : ∀ {l : List V}, mayVs u l = true ↔ ∀ v ∈ l, mayV u v = true := by
  intro l
  induction l with
  | nil => simp [mayVs]
  | cons a x ih => simp [mayVs, ih]
theorem mayV_iff {u : List UInt8 → Bool} {v : V} : mayV u v = true ↔ oneV u v = true ∧ ∀ x ∈ v.list, mayV u x = true := by
  cases v with
  | mk k b n t ks l => rw [mayV, Bool.and_eq_true, mayVs_iff]; rfl
/-! How great values are: how many, how deep, how many bytes, the longest list. -/
mutual
def countV : V → Nat
  | .mk _ _ _ _ _ l => 1 + countVs l
def countVs : List V → Nat
  | [] => 0
  | a :: x => countV a + countVs x
end
mutual
def deepV : V → Nat
  | .mk _ _ _ _ _ l => deepVs l + 1
def deepVs : List V → Nat
  | [] => 0
  | a :: x => max (deepV a) (deepVs x)
end
mutual
def bytesV : V → Nat
  | .mk _ _ _ t ks l => t.length + (ks.map List.length).sum + bytesVs l
def bytesVs : List V → Nat
  | [] => 0
  | a :: x => bytesV a + bytesVs x
end
mutual
def longV : V → Nat
  | .mk _ _ _ _ _ l => max l.length (longVs l)
def longVs : List V → Nat
  | [] => 0
  | a :: x => max (longV a) (longVs x)
end
/-- What is told of a value: may it be? -/
def checkV (u : List UInt8 → Bool) (v : V) : Int := if mayV u v then (if 64 < deepV v || 1048576 < bytesV v || 65536 < longV v then 3 else 0) else 110
/-! ### Equal: 0 false, 1 nothing, 2 true -/
mutual
def eqV : V → V → Int
  | .mk k b n t ks l, v =>
    if k = 0 ∨ v.kind = 0 then 1
    else if k ≠ v.kind then 0
    else if k ≠ 4 ∧ k ≠ 5 then (if cmpV (.mk k b n t ks l) v = 0 then 2 else 0)
    else if l.length ≠ v.list.length ∨ ks ≠ v.keys then 0
    else eqVs l v.list
def eqVs : List V → List V → Int
  | a :: x, b :: y => if eqV a b = 0 ∨ eqVs x y = 0 then 0 else if eqV a b = 1 ∨ eqVs x y = 1 then 1 else 2
  | _, _ => 2
end
/-! ### What may be -/
structure OneF (u : List UInt8 → Bool) (v : V) : Prop where
  lo : 0 ≤ v.kind
  hi : v.kind ≤ 7
  b : v.kind ≠ 1 → v.b = false
  n : v.kind ≠ 2 → v.kind ≠ 6 → v.kind ≠ 7 → v.n = 0
  text : v.kind ≠ 3 → v.text = []
  keys : v.kind ≠ 5 → v.keys = []
  list : v.kind ≠ 4 → v.kind ≠ 5 → v.list = []
  pos : v.kind = 6 ∨ v.kind = 7 → 0 ≤ v.n
  utf : u v.text = true
  len : v.kind = 5 → v.keys.length = v.list.length
  each : ∀ k ∈ v.keys, u k = true
  rises : risesB v.keys = true
theorem oneV_iff {u : List UInt8 → Bool} {v : V} : oneV u v = true ↔ OneF u v := by
  unfold oneV bareV
  simp only [Bool.and_eq_true, Bool.or_eq_true, beq_iff_eq, decide_eq_true_eq, Bool.not_eq_true', List.isEmpty_iff, List.all_eq_true, Bool.or_eq_false_iff, beq_eq_false_iff_ne]
  constructor
  · rintro ⟨⟨⟨⟨⟨⟨⟨h1, h2⟩, ⟨⟨⟨h3, h4⟩, h5⟩, h6⟩, h7⟩, h8⟩, h9⟩, h10⟩, h11⟩, h12⟩
    exact ⟨h1, h2, fun e => h3.resolve_left e, fun e1 e2 e3 => by rcases h4 with ((h | h) | h) | h <;> first | exact h | exact absurd h ‹_›, fun e => h5.resolve_left e, fun e => h6.resolve_left e, fun e1 e2 => by rcases h7 with (h | h) | h <;> first | exact h | exact absurd h ‹_›, fun e => by rcases h8 with ⟨a, b⟩ | h <;> first | exact h | omega, h9, fun e => h10.resolve_left fun h => h e, h11, h12⟩
  · intro h
    refine ⟨⟨⟨⟨⟨⟨⟨h.lo, h.hi⟩, ⟨⟨⟨?_, ?_⟩, ?_⟩, ?_⟩, ?_⟩, ?_⟩, h.utf⟩, ?_⟩, h.each⟩, h.rises⟩
    · by_cases e : v.kind = 1
      · exact .inl e
      · exact .inr (h.b e)
    · by_cases e : v.kind = 2
      · exact .inl (.inl (.inl e))
      · by_cases e2 : v.kind = 6
        · exact .inl (.inl (.inr e2))
        · by_cases e3 : v.kind = 7
          · exact .inl (.inr e3)
          · exact .inr (h.n e e2 e3)
    · by_cases e : v.kind = 3
      · exact .inl e
      · exact .inr (h.text e)
    · by_cases e : v.kind = 5
      · exact .inl e
      · exact .inr (h.keys e)
    · by_cases e : v.kind = 4
      · exact .inl (.inl e)
      · by_cases e2 : v.kind = 5
        · exact .inl (.inr e2)
        · exact .inr (h.list e e2)
    · by_cases e : v.kind = 6 ∨ v.kind = 7
      · exact .inr (h.pos e)
      · exact .inl ⟨fun x => e (.inl x), fun x => e (.inr x)⟩
    · by_cases e : v.kind = 5
      · exact .inr (h.len e)
      · exact .inl e
theorem rankV_inj {a b : Int} (ha : 0 ≤ a) (ha7 : a ≤ 7) (hb : 0 ≤ b) (hb7 : b ≤ 7) (h : rankV a = rankV b) : a = b := by
  unfold rankV at h
  repeat' split at h
  all_goals omega
theorem cmpI_self (a : Int) : cmpI a a = 0 := by unfold cmpI; simp
theorem orI_zero_left (a : Int) : orI 0 a = a := by unfold orI; simp
theorem orI_zero_right (a : Int) : orI a 0 = a := by unfold orI; split <;> simp_all
theorem cmpB_self (l : List UInt8) : cmpB l l = 0 := (ord_cmpB l).self
theorem cmpV_rank {a b : V} (h : cmpI (rankV a.kind) (rankV b.kind) ≠ 0) : cmpV a b = cmpI (rankV a.kind) (rankV b.kind) := by
  rw [cmpV_eq]; unfold orI; rw [if_pos h]
theorem cmpV_bool {u : List UInt8 → Bool} {a b : V} (ha : OneF u a) (hb : OneF u b) (ka : a.kind = 1) (kb : b.kind = 1) : cmpV a b = cmpI (b2i a.b) (b2i b.b) := by
  rw [cmpV_eq, ka, kb, cmpI_self, orI_zero_left, ha.text (by omega), hb.text (by omega), ha.keys (by omega), hb.keys (by omega), ha.list (by omega) (by omega), hb.list (by omega) (by omega), ha.n (by omega) (by omega) (by omega), hb.n (by omega) (by omega) (by omega)]
  simp [cmpB_self, cmpL, orI_zero_right, cmpI_self]
theorem cmpV_text {u : List UInt8 → Bool} {a b : V} (ha : OneF u a) (hb : OneF u b) (ka : a.kind = 3) (kb : b.kind = 3) : cmpV a b = cmpB a.text b.text := by
  rw [cmpV_eq, ka, kb, cmpI_self, orI_zero_left, ha.b (by omega), hb.b (by omega), ha.keys (by omega), hb.keys (by omega), ha.list (by omega) (by omega), hb.list (by omega) (by omega), ha.n (by omega) (by omega) (by omega), hb.n (by omega) (by omega) (by omega)]
  simp [cmpL, orI_zero_right, cmpI_self, orI_zero_left]
theorem cmpV_rest {u : List UInt8 → Bool} {a b : V} (ha : OneF u a) (hb : OneF u b) (k : a.kind = b.kind) (k1 : a.kind ≠ 1) (k3 : a.kind ≠ 3) : cmpV a b = orI (cmpL cmpB a.keys b.keys) (orI (cmpL cmpV a.list b.list) (cmpI a.n b.n)) := by
  rw [cmpV_eq, k, cmpI_self, orI_zero_left, ha.b k1, hb.b (by omega), ha.text k3, hb.text (by omega), cmpI_self, orI_zero_left, cmpB_self, orI_zero_left]
/-- Two values that may be and stand at one place are the same. -/
theorem cmpV_zero {u : List UInt8 → Bool} : ∀ a : V, mayV u a = true → ∀ b : V, mayV u b = true → cmpV a b = 0 → a = b := by
  refine V.ind fun k b n t ks l ih => ?_
  intro ha v hb h
  obtain ⟨h1, h2⟩ := mayV_iff.1 ha
  obtain ⟨g1, g2⟩ := mayV_iff.1 hb
  have f1 := oneV_iff.1 h1
  have f2 := oneV_iff.1 g1
  rw [cmpV_eq] at h
  obtain ⟨e1, h⟩ := orI_zero h
  obtain ⟨e2, h⟩ := orI_zero h
  obtain ⟨e3, h⟩ := orI_zero h
  obtain ⟨e4, h⟩ := orI_zero h
  obtain ⟨e5, e6⟩ := orI_zero h
  cases v with
  | mk k' b' n' t' ks' l' =>
    simp only [V.kind, V.b, V.n, V.text, V.keys, V.list] at *
    obtain rfl : k = k' := rankV_inj f1.lo f1.hi f2.lo f2.hi (cmpI_zero e1)
    obtain rfl := b2i_inj (cmpI_zero e2)
    obtain rfl := cmpB_zero e3
    obtain rfl := cmpL_zero (fun a _ b e => cmpB_zero e) e4
    obtain rfl := cmpI_zero e6
    have hl : ∀ (x y : List V), (∀ v ∈ x, v ∈ l) → (∀ v ∈ y, mayV u v = true) → cmpL cmpV x y = 0 → x = y := by
      intro x
      induction x with
      | nil => intro y _ _ h; cases y with
        | nil => rfl
        | cons => simp [cmpL] at h
      | cons a x ihx =>
        intro y hx hy h
        cases y with
        | nil => simp [cmpL] at h
        | cons c y =>
          unfold cmpL at h
          by_cases e : cmpV a c = 0
          · rw [if_neg (by omega)] at h
            rw [ih a (hx a (by simp)) (h2 a (hx a (by simp))) c (hy c (by simp)) e, ihx y (fun v hv => hx v (by simp [hv])) (fun v hv => hy v (by simp [hv])) h]
          · rw [if_pos e] at h; exact absurd h e
    rw [hl l l' (fun _ h => h) g2 e5]
mutual
/-- How many values, keys and bytes there are. -/
def totV : V → Nat
  | .mk _ _ _ t ks l => 1 + t.length + ks.length + (ks.map List.length).sum + totVs l
def totVs : List V → Nat
  | [] => 0
  | a :: x => totV a + totVs x
end
theorem totV_mk (k : Int) (b : Bool) (n : Int) (t : List UInt8) (ks : List (List UInt8)) (l : List V) : totV (.mk k b n t ks l) = 1 + t.length + ks.length + (ks.map List.length).sum + totVs l := by rw [totV]
theorem totV_eq (v : V) : totV v = 1 + v.text.length + v.keys.length + (v.keys.map List.length).sum + totVs v.list := by cases v; rw [totV]; rfl
theorem totVs_cons (a : V) (x : List V) : totVs (a :: x) = totV a + totVs x := by rw [totVs]
theorem totV_pos (v : V) : 1 ≤ totV v := by rw [totV_eq]; omega
theorem totVs_length : ∀ l : List V, l.length ≤ totVs l := by
  intro l
  induction l with
  | nil => simp
  | cons a x ih => rw [totVs_cons, List.length_cons]; have := totV_pos a; omega
theorem totVs_mem {l : List V} {a : V} (h : a ∈ l) : totV a ≤ totVs l := by
  induction l with
  | nil => simp at h
  | cons b x ih =>
    rw [totVs_cons]
    rcases List.mem_cons.1 h with rfl | h
    · omega
    · have := ih h; omega
theorem totVs_append (l m : List V) : totVs (l ++ m) = totVs l + totVs m := by
  induction l with
  | nil => simp [totVs]
  | cons a x ih => rw [List.cons_append, totVs_cons, totVs_cons, ih]; omega
theorem sum_mem {l : List (List UInt8)} {a : List UInt8} (h : a ∈ l) : a.length ≤ (l.map List.length).sum := by
  induction l with
  | nil => simp at h
  | cons b x ih =>
    simp only [List.map_cons, List.sum_cons]
    rcases List.mem_cons.1 h with rfl | h
    · omega
    · have := ih h; omega
end Go.Proofs.YtnkaegdnjfpliaaGreatDoor

/-! The texts of values; what the library's words are in ours. Plain. -/
namespace Go.Proofs.YtnkaegdnjfpliaaGreatDoor
set_option linter.unusedSimpArgs false
set_option linter.unusedVariables false
open Go

theorem compareInt_eq (a b : Int) : Lib.compareInt a b = cmpI a b := by unfold Lib.compareInt cmpI; simp only [gt_iff_lt]
theorem compareBytes_eq : ∀ l m : List UInt8, Lib.compareBytes l m = cmpB l m := by
  intro l
  induction l with
  | nil => intro m; cases m <;> simp [Lib.compareBytes, cmpB, cmpL]
  | cons a x ih =>
    intro m
    cases m with
    | nil => simp [Lib.compareBytes, cmpB, cmpL]
    | cons b y =>
      have h := ih y
      unfold cmpB at h ⊢
      unfold Lib.compareBytes cmpL
      rw [h]
      rcases cmpI_cases (a.toNat : Int) (b.toNat : Int) with ⟨h1, e⟩ | ⟨h1, e⟩ | ⟨h1, e⟩
      · have g : a < b := UInt8.lt_iff_toNat_lt.2 (by omega)
        rw [if_pos g, e]; simp
      · have g : ¬ a < b := fun h => by have := UInt8.lt_iff_toNat_lt.1 h; omega
        have g2 : ¬ b < a := fun h => by have := UInt8.lt_iff_toNat_lt.1 h; omega
        rw [if_neg g, if_neg g2, e]; simp
      · have g : ¬ a < b := fun h => by have := UInt8.lt_iff_toNat_lt.1 h; omega
        have g2 : b < a := UInt8.lt_iff_toNat_lt.2 (by omega)
        rw [if_neg g, if_pos g2, e]; simp

/-- A digit of sixteen. -/
def hexB (n : Nat) : UInt8 := if n < 10 then UInt8.ofNat (48 + n) else UInt8.ofNat (87 + n)
/-- How a byte is told within quotes. -/
def escB (c : UInt8) : List UInt8 :=
  if c = 39 then [92, 39] else if c = 92 then [92, 92] else if c = 10 then [92, 110] else if c = 9 then [92, 116] else if c = 13 then [92, 114]
  else if c.toNat < 32 ∨ c.toNat = 127 then [92, 117, 48, 48, hexB (c.toNat / 16), hexB (c.toNat % 16)] else [c]
def quoteB (s : List UInt8) : List UInt8 := 39 :: (s.flatMap escB ++ [39])
def letterB (c : UInt8) : Bool := (decide (97 ≤ c.toNat) && decide (c.toNat ≤ 122)) || (decide (65 ≤ c.toNat) && decide (c.toNat ≤ 90)) || c == 95
def digitB (c : UInt8) : Bool := decide (48 ≤ c.toNat) && decide (c.toNat ≤ 57)
def plainB : List UInt8 → Bool
  | [] => false
  | c :: r => letterB c && r.all fun x => letterB x || digitB x
def tickB (c : UInt8) : List UInt8 := if c = 96 then [96, 96] else [c]
def nameB (s : List UInt8) : List UInt8 := if plainB s then s else 96 :: (s.flatMap tickB ++ [96])
mutual
/-- The text of a value. -/
def textV : V → List UInt8
  | .mk k b n t ks l =>
    if k = 1 then (if b then [116, 114, 117, 101] else [102, 97, 108, 115, 101])
    else if k = 2 then Lib.itoa n
    else if k = 3 then quoteB t
    else if k = 6 then [60, 110] ++ Lib.itoa n ++ [62]
    else if k = 7 then [60, 114] ++ Lib.itoa n ++ [62]
    else if k = 0 then [110, 117, 108, 108]
    else if k = 5 then 123 :: (Lib.join (entriesV ks l) [44, 32] ++ [125])
    else 91 :: (Lib.join (textsV l) [44, 32] ++ [93])
def textsV : List V → List (List UInt8)
  | [] => []
  | a :: x => textV a :: textsV x
def entriesV : List (List UInt8) → List V → List (List UInt8)
  | _, [] => []
  | ks, a :: x => (nameB (ks.headD []) ++ [58, 32] ++ textV a) :: entriesV ks.tail x
end
theorem textsV_eq (l : List V) : textsV l = l.map textV := by
  induction l with
  | nil => rfl
  | cons a x ih => simp [textsV, ih]
end Go.Proofs.YtnkaegdnjfpliaaGreatDoor

/-! The document's UTF-8 is the library's. Plain. -/
namespace Go.Proofs.YtnkaegdnjfpliaaGreatDoor
set_option linter.unusedSimpArgs false
set_option linter.unusedVariables false
open Go

theorem byteN_lt (l : List UInt8) (i : Nat) : byteN l i < 256 := by
  unfold byteN
  split
  · rename_i x _; exact x.toNat_lt
  · omega
theorem get_byteN (l : List UInt8) (i : Nat) : ((⟨l.toArray⟩ : ByteArray).get! i).toNat = byteN l i := by
  unfold byteN
  show (l.toArray[i]!).toNat = _
  rw [getElem!_def]
  simp only [List.getElem?_toArray]
  cases l[i]? <;> rfl
theorem moreB_cont (l : List UInt8) (i : Nat) : (decide (i < l.length) && byteN l i / 64 == 2) = moreB l i := by
  unfold moreB byteN
  by_cases h : i < l.length
  · rw [List.getElem?_eq_getElem h]
    simp only [h, decide_true, Bool.true_and]
    rw [Bool.eq_iff_iff]
    simp only [beq_iff_eq, Bool.and_eq_true, decide_eq_true_eq]
    omega
  · rw [List.getElem?_eq_none (by omega)]
    simp [h]
theorem moreB_bounds {l : List UInt8} {i : Nat} (h : moreB l i = true) : 128 ≤ byteN l i ∧ byteN l i ≤ 191 := by
  rw [← moreB_cont] at h
  simp only [Bool.and_eq_true, beq_iff_eq] at h
  omega
/-- decode, by bytes and what follows them. -/
def decN (b0 b1 b2 b3 : Nat) (m1 m2 m3 : Bool) : Nat × Nat :=
  if b0 < 0x80 then (b0, 1)
  else if b0 / 32 == 6 && m1 then
    if (b0 % 32) * 64 + b1 % 64 ≥ 0x80 then ((b0 % 32) * 64 + b1 % 64, 2) else (Utf8.runeError, 1)
  else if b0 / 16 == 14 && m1 && m2 then
    if (b0 % 16) * 4096 + (b1 % 64) * 64 + b2 % 64 ≥ 0x800 && Utf8.valid ((b0 % 16) * 4096 + (b1 % 64) * 64 + b2 % 64 : Nat) then ((b0 % 16) * 4096 + (b1 % 64) * 64 + b2 % 64, 3) else (Utf8.runeError, 1)
  else if b0 / 8 == 30 && m1 && m2 && m3 then
    if (b0 % 8) * 262144 + (b1 % 64) * 4096 + (b2 % 64) * 64 + b3 % 64 ≥ 0x10000 && Utf8.valid ((b0 % 8) * 262144 + (b1 % 64) * 4096 + (b2 % 64) * 64 + b3 % 64 : Nat) then ((b0 % 8) * 262144 + (b1 % 64) * 4096 + (b2 % 64) * 64 + b3 % 64, 4) else (Utf8.runeError, 1)
  else (Utf8.runeError, 1)
theorem decodeL_eq (l : List UInt8) : Lib.decodeL l = decN (byteN l 0) (byteN l 1) (byteN l 2) (byteN l 3) (moreB l 1) (moreB l 2) (moreB l 3) := by
  have hs : (⟨l.toArray⟩ : ByteArray).size = l.length := by simp [ByteArray.size]
  unfold Lib.decodeL Utf8.decode decN
  simp only [Nat.zero_add, get_byteN, hs, moreB_cont]
theorem valid_iff (c : Nat) : Utf8.valid (c : Int) = true ↔ c < 0xD800 ∨ (0xE000 ≤ c ∧ c ≤ 0x10FFFF) := by
  unfold Utf8.valid
  simp only [Bool.or_eq_true, Bool.and_eq_true, decide_eq_true_eq]
  omega
theorem rune_step (l : List UInt8) : (((Lib.decodeL l).1 = 65533 ∧ (Lib.decodeL l).2 = 1) ↔ runeL l 0 = 0) ∧ (runeL l 0 ≠ 0 → (Lib.decodeL l).2 = runeL l 0) := by
  rw [decodeL_eq]
  unfold runeL
  have l0 := byteN_lt l 0
  have l1 := byteN_lt l 1
  have l2 := byteN_lt l 2
  have l3 := byteN_lt l 3
  simp only [Nat.zero_add]
  have c1 := @moreB_bounds l 1
  have c2 := @moreB_bounds l 2
  have c3 := @moreB_bounds l 3
  generalize byteN l 0 = b0 at *
  generalize byteN l 1 = b1 at *
  generalize byteN l 2 = b2 at *
  generalize byteN l 3 = b3 at *
  generalize moreB l 1 = m1 at *
  generalize moreB l 2 = m2 at *
  generalize moreB l 3 = m3 at *
  generalize hY : (if b0 < 128 then 1 else _) = Y
  generalize hX : decN b0 b1 b2 b3 m1 m2 m3 = X
  unfold decN Utf8.runeError at hX
  simp only [Bool.and_eq_true, Bool.or_eq_true, decide_eq_true_eq, beq_iff_eq, valid_iff, ge_iff_le] at hX hY
  cases m1 <;> cases m2 <;> cases m3
  all_goals
    simp only [Bool.false_eq_true, and_false, false_and, and_true, if_false] at hX hY
    try simp only [Bool.false_eq_true, false_implies, true_implies] at c1
    try simp only [Bool.false_eq_true, false_implies, true_implies] at c2
    try simp only [Bool.false_eq_true, false_implies, true_implies] at c3
    repeat' split at hX
    all_goals
      subst hX
      repeat' split at hY
      all_goals
        subst hY
        dsimp only
        omega
/-- Is a text UTF-8, from a place on? -/
def utfFrom (l : List UInt8) : Nat → Nat → Bool
  | 0, i => decide (l.length ≤ i)
  | f + 1, i => if l.length ≤ i then true else if runeL l i = 0 then false else utfFrom l f (i + runeL l i)
theorem byteN_drop (l : List UInt8) (i j : Nat) : byteN (l.drop i) j = byteN l (i + j) := by unfold byteN; rw [List.getElem?_drop]
theorem moreB_drop (l : List UInt8) (i j : Nat) : moreB (l.drop i) j = moreB l (i + j) := by unfold moreB; rw [List.getElem?_drop]
theorem runeL_drop (l : List UInt8) (i : Nat) : runeL (l.drop i) 0 = runeL l i := by
  unfold runeL
  simp only [byteN_drop, moreB_drop, Nat.zero_add, Nat.add_zero]
theorem utfFrom_valid (l : List UInt8) : ∀ (f i : Nat), l.length - i ≤ f → utfFrom l f i = Lib.validD (l.drop i) := by
  intro f
  induction f with
  | zero =>
    intro i h
    have : l.drop i = [] := List.drop_eq_nil_of_le (by omega)
    rw [this, Lib.validD_nil]
    simp [utfFrom]; omega
  | succ f ih =>
    intro i h
    unfold utfFrom
    by_cases hi : l.length ≤ i
    · rw [if_pos hi, List.drop_eq_nil_of_le hi, Lib.validD_nil]
    · rw [if_neg hi]
      have hne : l.drop i ≠ [] := by intro e; have := congrArg List.length e; simp at this; omega
      rw [Lib.validD_step _ hne]
      obtain ⟨h1, h2⟩ := rune_step (l.drop i)
      rw [runeL_drop] at h1 h2
      by_cases hr : runeL l i = 0
      · rw [if_pos hr, if_pos (h1.2 hr)]
      · rw [if_neg hr, if_neg (fun h => hr (h1.1 h)), ih _ (by omega), h2 hr, List.drop_drop]
/-- UTF-8, as the document says it. -/
def utfB (l : List UInt8) : Bool := utfFrom l l.length 0
theorem utfB_valid (l : List UInt8) : utfB l = Lib.validD l := by
  unfold utfB; rw [utfFrom_valid l _ _ (by omega), List.drop_zero]
end Go.Proofs.YtnkaegdnjfpliaaGreatDoor

/-! Values in memory. -/
namespace Go.Proofs.YtnkaegdnjfpliaaGreatDoor
set_option linter.unusedSimpArgs false
set_option linter.unusedVariables false
open Go.RowKit

/-- Strings lie at a slice. -/
def RdS (w : World) (p : Option Addr) (c : Nat) (l : List (List UInt8)) : Prop :=
  l.length ≤ c ∧ (l.length ≤ 140737488355328 ∧ c ≤ 9223372036854775807) ∧ (p = none → c = 0) ∧ (∀ s ∈ l, s.length ≤ 140737488355328) ∧ ∀ ad, p = some ad → (l ≠ [] → ad.spot = none) ∧ ∀ (i : Nat) (s : List UInt8), l[i]? = some s → w.cell? ⟨ad.block, ad.off + i, none⟩ = some (.string (strB s))
/-- Six cells. -/
def Six (w : World) (b o : Nat) (cs : Array Value) : Prop := ∃ c0 c1 c2 c3 c4 c5, cs = #[c0, c1, c2, c3, c4, c5] ∧ w.cell? ⟨b, o, none⟩ = some c0 ∧ w.cell? ⟨b, o + 1, none⟩ = some c1 ∧ w.cell? ⟨b, o + 2, none⟩ = some c2 ∧ w.cell? ⟨b, o + 3, none⟩ = some c3 ∧ w.cell? ⟨b, o + 4, none⟩ = some c4 ∧ w.cell? ⟨b, o + 5, none⟩ = some c5
mutual
/-- Six cells' values read as a value. -/
def VRd (w : World) : V → Array Value → Prop
  | .mk k b n t ks l, cs => ∃ pk ck pl cl, cs = #[.int .i64 k, .bool b, .int .i64 n, .string (strB t), .slice pk ks.length ck, .slice pl l.length cl] ∧ t.length ≤ 140737488355328 ∧ RdS w pk ck ks ∧
      (l.length ≤ cl ∧ (l.length ≤ 140737488355328 ∧ cl ≤ 9223372036854775807) ∧ (pl = none → cl = 0)) ∧ ∀ ad, pl = some ad → (l ≠ [] → ad.spot = none) ∧ VRds w ad 0 l
def VRds (w : World) (ad : Addr) : Nat → List V → Prop
  | _, [] => True
  | i, v :: r => (∃ cs, Six w ad.block (ad.off + i * 6) cs ∧ VRd w v cs) ∧ VRds w ad (i + 1) r
end
theorem VRds_iff {w : World} {ad : Addr} : ∀ {l : List V} {i : Nat}, VRds w ad i l ↔ ∀ (j : Nat) (v : V), l[j]? = some v → ∃ cs, Six w ad.block (ad.off + (i + j) * 6) cs ∧ VRd w v cs := by
  intro l
  induction l with
  | nil => intro i; simp [VRds]
  | cons a r ih =>
    intro i
    rw [VRds, ih]
    constructor
    · rintro ⟨h1, h2⟩ j v hv
      cases j with
      | zero => simp only [List.getElem?_cons_zero, Option.some.injEq] at hv; subst hv; exact h1
      | succ j => have := h2 j v (by simpa using hv); rwa [show i + 1 + j = i + (j + 1) by omega] at this
    · intro h
      exact ⟨h 0 a rfl, fun j v hv => by have := h (j + 1) v (by simpa using hv); rwa [show i + (j + 1) = i + 1 + j by omega] at this⟩
/-- Values lie at a slice. -/
def LRd (w : World) (p : Option Addr) (c : Nat) (l : List V) : Prop :=
  (l.length ≤ c ∧ (l.length ≤ 140737488355328 ∧ c ≤ 9223372036854775807) ∧ (p = none → c = 0)) ∧ ∀ ad, p = some ad → (l ≠ [] → ad.spot = none) ∧ ∀ (j : Nat) (v : V), l[j]? = some v → ∃ cs, Six w ad.block (ad.off + j * 6) cs ∧ VRd w v cs
theorem VRd_iff {w : World} {k : Int} {b : Bool} {n : Int} {t : List UInt8} {ks : List (List UInt8)} {l : List V} {cs : Array Value} : VRd w (.mk k b n t ks l) cs ↔ ∃ pk ck pl cl, cs = #[.int .i64 k, .bool b, .int .i64 n, .string (strB t), .slice pk ks.length ck, .slice pl l.length cl] ∧ t.length ≤ 140737488355328 ∧ RdS w pk ck ks ∧ LRd w pl cl l := by
  rw [VRd]
  simp only [VRds_iff, Nat.zero_add, LRd]
theorem VRd.open {w : World} {v : V} {cs : Array Value} (h : VRd w v cs) : ∃ pk ck pl cl, cs = #[.int .i64 v.kind, .bool v.b, .int .i64 v.n, .string (strB v.text), .slice pk v.keys.length ck, .slice pl v.list.length cl] ∧ v.text.length ≤ 140737488355328 ∧ RdS w pk ck v.keys ∧ LRd w pl cl v.list := by
  cases v; exact VRd_iff.1 h
theorem VRd.mk' {w : World} {v : V} {pk pl : Option Addr} {ck cl : Nat} (ht : v.text.length ≤ 140737488355328) (hk : RdS w pk ck v.keys) (hl : LRd w pl cl v.list) : VRd w v #[.int .i64 v.kind, .bool v.b, .int .i64 v.n, .string (strB v.text), .slice pk v.keys.length ck, .slice pl v.list.length cl] := by
  cases v; exact VRd_iff.2 ⟨_, _, _, _, rfl, ht, hk, hl⟩

section
variable {w w' : World}
theorem RdS.below {p : Option Addr} {c : Nat} {l : List (List UInt8)} (h : RdS w p c l) (g : Below w.heap.size w w') : RdS w' p c l := by
  obtain ⟨h1, h2, h3, h5, h4⟩ := h
  exact ⟨h1, h2, h3, h5, fun ad had => ⟨(h4 ad had).1, fun i s hs => belowCell g (ltOf ((h4 ad had).2 i s hs)) ((h4 ad had).2 i s hs)⟩⟩
theorem Six.below {b o : Nat} {cs : Array Value} (h : Six w b o cs) (g : Below w.heap.size w w') : Six w' b o cs := by
  obtain ⟨c0, c1, c2, c3, c4, c5, e, h0, h1, h2, h3, h4, h5⟩ := h
  exact ⟨c0, c1, c2, c3, c4, c5, e, belowCell g (ltOf h0) h0, belowCell g (ltOf h1) h1, belowCell g (ltOf h2) h2, belowCell g (ltOf h3) h3, belowCell g (ltOf h4) h4, belowCell g (ltOf h5) h5⟩
theorem VRd.below (g : Below w.heap.size w w') : ∀ {v : V} {cs : Array Value}, VRd w v cs → VRd w' v cs := by
  intro v
  refine V.ind (P := fun v => ∀ {cs : Array Value}, VRd w v cs → VRd w' v cs) (fun k b n t ks l ih cs h => ?_) v
  obtain ⟨pk, ck, pl, cl, e, ht, hk, h1, h2⟩ := VRd_iff.1 h
  refine VRd_iff.2 ⟨pk, ck, pl, cl, e, ht, hk.below g, h1, fun ad had => ⟨(h2 ad had).1, fun j v hv => ?_⟩⟩
  obtain ⟨cs, h6, hv'⟩ := (h2 ad had).2 j v hv
  exact ⟨cs, h6.below g, ih v (List.mem_of_getElem? hv) hv'⟩
theorem LRd.below {p : Option Addr} {c : Nat} {l : List V} (h : LRd w p c l) (g : Below w.heap.size w w') : LRd w' p c l := by
  obtain ⟨h1, h2⟩ := h
  refine ⟨h1, fun ad had => ⟨(h2 ad had).1, fun j v hv => ?_⟩⟩
  obtain ⟨cs, h6, hv'⟩ := (h2 ad had).2 j v hv
  exact ⟨cs, h6.below g, hv'.below g⟩
/-- A string of a row of strings. -/
theorem RdS.get {p : Option Addr} {c : Nat} {l : List (List UInt8)} (h : RdS w p c l) {i : Nat} (hi : i < l.length) : ∃ b o, p = some ⟨b, o, none⟩ ∧ w.cell? ⟨b, o + i, none⟩ = some (.string (strB l[i])) ∧ l[i].length ≤ 140737488355328 := by
  obtain ⟨h1, h2, h3, h5, h4⟩ := h
  cases p with
  | none => have := h3 rfl; omega
  | some ad =>
    obtain ⟨hs, hc⟩ := h4 ad rfl
    have hs := hs (fun e => by rw [e] at hi; simp at hi)
    obtain ⟨b, o, sp⟩ := ad
    simp only at hs; subst hs
    exact ⟨b, o, rfl, hc i _ (List.getElem?_eq_getElem hi), h5 _ (List.getElem_mem hi)⟩
/-- A value of a row of values. -/
theorem LRd.get {p : Option Addr} {c : Nat} {l : List V} (h : LRd w p c l) {i : Nat} (hi : i < l.length) : ∃ b o cs, p = some ⟨b, o, none⟩ ∧ Six w b (o + i * 6) cs ∧ VRd w l[i] cs := by
  obtain ⟨⟨h1, h2, h3⟩, h4⟩ := h
  cases p with
  | none => have := h3 rfl; omega
  | some ad =>
    obtain ⟨hs, hc⟩ := h4 ad rfl
    have hs := hs (fun e => by rw [e] at hi; simp at hi)
    obtain ⟨b, o, sp⟩ := ad
    simp only at hs; subst hs
    obtain ⟨cs, h6, hv⟩ := hc i _ (List.getElem?_eq_getElem hi)
    exact ⟨b, o, cs, rfl, h6, hv⟩
end
/-- A value of a row, laid open. -/
theorem LRd.at {w : World} {p : Option Addr} {c : Nat} {l : List V} (h : LRd w p c l) {i : Nat} (hi : i < l.length) : ∃ b o pk ck pl cl, p = some ⟨b, o, none⟩ ∧
    (w.cell? ⟨b, o + i * 6, none⟩ = some (.int .i64 l[i].kind) ∧ w.cell? ⟨b, o + i * 6 + 1, none⟩ = some (.bool l[i].b) ∧ w.cell? ⟨b, o + i * 6 + 2, none⟩ = some (.int .i64 l[i].n) ∧ w.cell? ⟨b, o + i * 6 + 3, none⟩ = some (.string (strB l[i].text)) ∧
      w.cell? ⟨b, o + i * 6 + 4, none⟩ = some (.slice pk l[i].keys.length ck) ∧ w.cell? ⟨b, o + i * 6 + 5, none⟩ = some (.slice pl l[i].list.length cl)) ∧
    VRd w l[i] #[.int .i64 l[i].kind, .bool l[i].b, .int .i64 l[i].n, .string (strB l[i].text), .slice pk l[i].keys.length ck, .slice pl l[i].list.length cl] := by
  obtain ⟨b, o, cs, hp, ⟨c0, c1, c2, c3, c4, c5, e, h0, h1, h2, h3, h4, h5⟩, hv⟩ := h.get hi
  obtain ⟨pk, ck, pl, cl, e2, ht, hk, hl⟩ := hv.open
  rw [e2] at e
  have hx := e.symm
  simp only [Array.mk.injEq, List.cons.injEq, and_true] at hx
  obtain ⟨rfl, rfl, rfl, rfl, rfl, rfl⟩ := hx
  exact ⟨b, o, pk, ck, pl, cl, hp, ⟨h0, h1, h2, h3, h4, h5⟩, VRd.mk' ht hk hl⟩
end Go.Proofs.YtnkaegdnjfpliaaGreatDoor

/-! The smallest functions of value, and of cmp. -/
namespace Go.Proofs.YtnkaegdnjfpliaaGreatDoor
set_option linter.unusedSimpArgs false
set_option linter.unusedVariables false
open Go.RowKit

set_option maxHeartbeats 1000000 in
theorem rank_any (k : Int) (w : World) : Calls Tryz.prog 94 #[.int .i64 k] w fun e w' => e = .returned (.int .i64 (rankV k)) ∧ w = w' := by
  by_cases e0 : k = 0
  · subst e0; go_enter Tryz.func94, Tryz.ntmps94; go_wp2; go_ret; exact ⟨rfl, rfl⟩
  by_cases e2 : k = 2
  · subst e2; go_enter Tryz.func94, Tryz.ntmps94; go_wp2; go_ret; exact ⟨rfl, rfl⟩
  by_cases e1 : k = 1
  · subst e1; go_enter Tryz.func94, Tryz.ntmps94; go_wp2; go_ret; exact ⟨rfl, rfl⟩
  by_cases e3 : k = 3
  · subst e3; go_enter Tryz.func94, Tryz.ntmps94; go_wp2; go_ret; exact ⟨rfl, rfl⟩
  by_cases e4 : k = 4
  · subst e4; go_enter Tryz.func94, Tryz.ntmps94; go_wp2; go_ret; exact ⟨rfl, rfl⟩
  by_cases e7 : k = 7
  · subst e7; go_enter Tryz.func94, Tryz.ntmps94; go_wp2; go_ret; exact ⟨rfl, rfl⟩
  by_cases e6 : k = 6
  · subst e6; go_enter Tryz.func94, Tryz.ntmps94; go_wp2; go_ret; exact ⟨rfl, rfl⟩
  have hr : rankV k = 0 := by simp [rankV, e0, e1, e2, e3, e4, e6, e7]
  rw [hr]
  have d0 : (k == 0) = false := by simpa using e0
  have d1 : (k == 1) = false := by simpa using e1
  have d2 : (k == 2) = false := by simpa using e2
  have d3 : (k == 3) = false := by simpa using e3
  have d4 : (k == 4) = false := by simpa using e4
  have d6 : (k == 6) = false := by simpa using e6
  have d7 : (k == 7) = false := by simpa using e7
  clear e0 e1 e2 e3 e4 e6 e7 hr
  go_enter Tryz.func94, Tryz.ntmps94
  go_wp2
  go_ret
  exact ⟨rfl, rfl⟩
/-- A truth, as it is told. -/
def truthN (b : Bool) : Int := if b then 2 else 0
theorem truth_any (b : Bool) (w : World) : Calls Tryz.prog 66 #[.bool b] w fun e w' => e = .returned (.int .i64 (truthN b)) ∧ w = w' := by
  cases b <;> (go_enter Tryz.func66, Tryz.ntmps66; go_wp2; go_ret; exact ⟨rfl, rfl⟩)
theorem truthR_any (b : Bool) (w : World) : Calls Tryz.prog 64 #[.bool b] w fun e w' => e = .returned (.int .i64 (truthN b)) ∧ w = w' := by
  cases b <;> (go_enter Tryz.func64, Tryz.ntmps64; go_wp2; go_ret; exact ⟨rfl, rfl⟩)
theorem nan_any (x : Int) (w : World) : Calls Tryz.prog 118 #[.int .i64 x] w fun e w' => e = .returned (.bool false) ∧ w = w' := by
  go_enter Tryz.func118, Tryz.ntmps118
  go_wp2
  go_ret
  exact ⟨by simp, rfl⟩
theorem nan64_any (x : Int) (w : World) : Calls Tryz.prog 120 #[.int .i64 x] w fun e w' => e = .returned (.bool false) ∧ w = w' := by
  go_enter Tryz.func120, Tryz.ntmps120
  go_wp2
  go_ret
  exact ⟨by simp, rfl⟩
theorem cmp_any (x y : Int) (w : World) : Calls Tryz.prog 93 #[.int .i64 x, .int .i64 y] w fun e w' => e = .returned (.int .i64 (cmpI x y)) ∧ w = w' := by
  rcases cmpI_cases x y with ⟨h, e⟩ | ⟨h, e⟩ | ⟨h, e⟩
  all_goals
    rw [e]
    clear e
  · have d1 : decide (x < y) = true := by simpa using h
    go_enter Tryz.func93, Tryz.ntmps93
    go_wp2_with (go_at_call 118; refine (nan_any _ _).mono ?_; rintro e w' ⟨rfl, rfl⟩)
    go_ret
    exact ⟨rfl, rfl⟩
  · subst h
    go_enter Tryz.func93, Tryz.ntmps93
    go_wp2_with (go_at_call 118; refine (nan_any _ _).mono ?_; rintro e w' ⟨rfl, rfl⟩)
    go_ret
    exact ⟨rfl, rfl⟩
  · have d1 : decide (x < y) = false := by simp; omega
    have d2 : decide (x > y) = true := by simp; omega
    go_enter Tryz.func93, Tryz.ntmps93
    go_wp2_with (go_at_call 118; refine (nan_any _ _).mono ?_; rintro e w' ⟨rfl, rfl⟩)
    go_ret
    exact ⟨rfl, rfl⟩
theorem cmp64_any (x y : Int) (w : World) : Calls Tryz.prog 98 #[.int .i64 x, .int .i64 y] w fun e w' => e = .returned (.int .i64 (cmpI x y)) ∧ w = w' := by
  rcases cmpI_cases x y with ⟨h, e⟩ | ⟨h, e⟩ | ⟨h, e⟩
  all_goals
    rw [e]
    clear e
  · have d1 : decide (x < y) = true := by simpa using h
    go_enter Tryz.func98, Tryz.ntmps98
    go_wp2_with (go_at_call 120; refine (nan64_any _ _).mono ?_; rintro e w' ⟨rfl, rfl⟩)
    go_ret
    exact ⟨rfl, rfl⟩
  · subst h
    go_enter Tryz.func98, Tryz.ntmps98
    go_wp2_with (go_at_call 120; refine (nan64_any _ _).mono ?_; rintro e w' ⟨rfl, rfl⟩)
    go_ret
    exact ⟨rfl, rfl⟩
  · have d1 : decide (x < y) = false := by simp; omega
    have d2 : decide (x > y) = true := by simp; omega
    go_enter Tryz.func98, Tryz.ntmps98
    go_wp2_with (go_at_call 120; refine (nan64_any _ _).mono ?_; rintro e w' ⟨rfl, rfl⟩)
    go_ret
    exact ⟨rfl, rfl⟩
theorem or_any (x y z : Int) (w : World) (g : Nat) (h0 : w.cell? ⟨g, 0, none⟩ = some (.int .i64 x)) (h1 : w.cell? ⟨g, 1, none⟩ = some (.int .i64 y)) (h2 : w.cell? ⟨g, 2, none⟩ = some (.int .i64 z)) :
    Calls Tryz.prog 96 #[.slice (some ⟨g, 0, none⟩) 3 3] w fun e w' => e = .returned (.int .i64 (orI x (orI y z))) ∧ w = w' := by
  have HC := Lib.hid (And.intro h0 (And.intro h1 h2))
  clear h0 h1 h2
  go_enter Tryz.func96, Tryz.ntmps96
  go_wp2
  go_loop [8] (fun i => ∃ k : Nat, k ≤ 3 ∧ i = .int .i64 (k : Int) ∧ Hid ((1 ≤ k → x = 0) ∧ (2 ≤ k → y = 0) ∧ (3 ≤ k → z = 0))) (fun i => 3 - (intOf i).toNat)
  case atStart => exact ⟨0, by omega, rfl, Lib.hid ⟨fun h => by omega, fun h => by omega, fun h => by omega⟩⟩
  case round =>
    obtain ⟨k, hk, rfl, HZ⟩ := hrel
    obtain ⟨h0, h1, h2⟩ := HC.out
    have hkk : k = 0 ∨ k = 1 ∨ k = 2 ∨ k = 3 := by omega
    rcases hkk with rfl | rfl | rfl | rfl
    · by_cases e : x = 0
      · have d : (x != 0) = false := by simp [e]
        have He := Lib.hid e
        clear e
        go_wp2
        go_round
        case rel => exact ⟨1, by omega, rfl, Lib.hid ⟨fun _ => He.out, fun h => by omega, fun h => by omega⟩⟩
        case measure => simp [intOf]
      · have d : (x != 0) = true := by simpa using e
        have He := Lib.hid e
        clear e
        go_wp2
        go_ret
        exact ⟨ret_int (by unfold orI; rw [if_pos He.out]), rfl⟩
    · by_cases e : y = 0
      · have d : (y != 0) = false := by simp [e]
        have He := Lib.hid e
        clear e
        go_wp2
        go_round
        case rel => exact ⟨2, by omega, rfl, Lib.hid ⟨fun _ => HZ.out.1 (by omega), fun _ => He.out, fun h => by omega⟩⟩
        case measure => simp [intOf]
      · have d : (y != 0) = true := by simpa using e
        have He := Lib.hid e
        clear e
        go_wp2
        go_ret
        exact ⟨ret_int (by rw [HZ.out.1 (by omega), orI_zero_left]; unfold orI; rw [if_pos He.out]), rfl⟩
    · by_cases e : z = 0
      · have d : (z != 0) = false := by simp [e]
        have He := Lib.hid e
        clear e
        go_wp2
        go_round
        case rel => exact ⟨3, by omega, rfl, Lib.hid ⟨fun _ => HZ.out.1 (by omega), fun _ => HZ.out.2.1 (by omega), fun _ => He.out⟩⟩
        case measure => simp [intOf]
      · have d : (z != 0) = true := by simpa using e
        have He := Lib.hid e
        clear e
        go_wp2
        go_ret
        exact ⟨ret_int (by rw [HZ.out.1 (by omega), HZ.out.2.1 (by omega), orI_zero_left, orI_zero_left]), rfl⟩
    · go_wp2
      go_ret
      exact ⟨ret_int (by rw [HZ.out.1 (by omega), HZ.out.2.1 (by omega), HZ.out.2.2 (by omega)]; rfl), rfl⟩
theorem check_bool (a : Bool) (em : Bool) (w : World) : (Instr.checkKey em 10000 4 (.bool a)).run Tryz.prog w = .ok () w := by
  have : (10000 : Nat) = 9999 + 1 := rfl
  rw [this, Instr.checkKey]
  simp [Sem.run_bind, run_underlying Tryz.underlying4, Result.andThen]
theorem find_tt (a : Bool) (w : World) : (Instr.findKey 4 (.bool a) [{ key := .bool true, val := .int .i64 1, born := 0 }]).run Tryz.prog w = .ok (if a then some (0, .int .i64 1) else none) w := by
  cases a <;> simp [Instr.findKey, Sem.run_bind, run_underlying Tryz.underlying4, Result.andThen, Instr.findNow, Instr.sameNow]
/-- The map of truths: what lies under each. -/
theorem lookup_tt {w : World} {b clk : Nat} (h : w.heap[b]? = some (.map #[{ key := .bool true, val := .int .i64 1, born := 0 }] clk)) (a : Bool) : (Instr.lookup 123 (.map (some b)) (.bool a) false).run Tryz.prog w = .ok (.int .i64 (b2i a)) w := by
  unfold Instr.lookup
  simp only [Sem.run_bind, run_underlying Tryz.underlying123, Result.andThen_ok, getObj, Sem.run, h, Sem.run_pure, check_bool, find_tt]
  cases a
  · simp [Tryz.zeroValue3, b2i]
  · simp [b2i]
theorem insert_tt {w : World} {b : Nat} (h : w.heap[b]? = some (.map #[] 0)) : (Instr.mapUpdate 123 (.map (some b)) (.bool true) (.int .i64 1)).run Tryz.prog w = .ok () (w.putObj b (.map #[{ key := .bool true, val := .int .i64 1, born := 0 }] 1)) := by
  unfold Instr.mapUpdate
  have hf : (Instr.findKey 4 (.bool true) []).run Tryz.prog w = .ok none w := by simp [Instr.findKey, Sem.run_bind, run_underlying Tryz.underlying4, Result.andThen, Instr.findNow]
  simp only [Sem.run_bind, run_underlying Tryz.underlying123, Result.andThen_ok, getObj, Sem.run, h, Sem.run_pure, check_bool, hf]
  simp [setObj, Sem.run, h, World.putObj]
set_option maxRecDepth 100000 in
set_option maxHeartbeats 1000000 in
theorem truths_any (a b : Bool) (w : World) : Calls Tryz.prog 95 #[.bool a, .bool b] w fun e w' => e = .returned (.int .i64 (cmpI (b2i a) (b2i b))) ∧ Below w.heap.size w w' := by
  have hmm := @run_makeMap Tryz.prog
  have hin := insert_tt (w := w.alloc (.map #[] 0)) (b := w.heap.size) (heap_alloc_new _ _)
  have hb : Below w.heap.size w ((w.alloc (.map #[] 0)).putObj w.heap.size (.map #[{ key := .bool true, val := .int .i64 1, born := 0 }] 1)) := below_putObj (below_new _) (Nat.le_refl _)
  have hlk := fun a => lookup_tt (w := (w.alloc (.map #[] 0)).putObj w.heap.size (.map #[{ key := .bool true, val := .int .i64 1, born := 0 }] 1)) (b := w.heap.size) (clk := 1) (putObj_self (heap_alloc_new _ _)) a
  generalize (w.alloc (.map #[] 0)).putObj w.heap.size (.map #[{ key := .bool true, val := .int .i64 1, born := 0 }] 1) = w1 at *
  have HB := Lib.hid hb
  clear hb
  go_enter Tryz.func95, Tryz.ntmps95
  go_wp2_with (go_at_call 93; refine (cmp_any _ _ _).mono ?_; rintro e w' ⟨rfl, rfl⟩)
  go_ret
  exact ⟨rfl, HB.out⟩
end Go.Proofs.YtnkaegdnjfpliaaGreatDoor

/-! Equal: its plain law. Nothing of the program is named here. -/
namespace Go.Proofs.YtnkaegdnjfpliaaGreatDoor
set_option linter.unusedSimpArgs false
set_option linter.unusedVariables false

theorem eqVs_cons (a b : V) (x y : List V) : eqVs (a :: x) (b :: y) = if eqV a b = 0 ∨ eqVs x y = 0 then 0 else if eqV a b = 1 ∨ eqVs x y = 1 then 1 else 2 := by rw [eqVs]
theorem eqVs_nil (y : List V) : eqVs [] y = 2 := by cases y <;> simp [eqVs]
theorem eqVs_range : ∀ x y : List V, eqVs x y = 0 ∨ eqVs x y = 1 ∨ eqVs x y = 2 := by
  intro x
  induction x with
  | nil => intro y; rw [eqVs_nil]; simp
  | cons a x ih =>
    intro y
    cases y with
    | nil => simp [eqVs]
    | cons b y =>
      rw [eqVs_cons]
      split
      · exact .inl rfl
      · split
        · exact .inr (.inl rfl)
        · exact .inr (.inr rfl)
theorem eqV_mk (k : Int) (b : Bool) (n : Int) (t : List UInt8) (ks : List (List UInt8)) (l : List V) (v : V) : eqV (.mk k b n t ks l) v =
    if k = 0 ∨ v.kind = 0 then 1
    else if k ≠ v.kind then 0
    else if k ≠ 4 ∧ k ≠ 5 then (if cmpV (.mk k b n t ks l) v = 0 then 2 else 0)
    else if l.length ≠ v.list.length ∨ ks ≠ v.keys then 0
    else eqVs l v.list := by rw [eqV]
theorem eqV_range (a v : V) : eqV a v = 0 ∨ eqV a v = 1 ∨ eqV a v = 2 := by
  cases a with
  | mk k b n t ks l =>
    rw [eqV_mk]
    split
    · exact .inr (.inl rfl)
    · split
      · exact .inl rfl
      · split
        · split
          · exact .inr (.inr rfl)
          · exact .inl rfl
        · split
          · exact .inl rfl
          · exact eqVs_range _ _
/-- What has been met, and what is to come. -/
def combE (o r : Int) : Int := if r = 0 then 0 else if o = 1 then 1 else r
theorem combE_two (r : Int) (h : r = 0 ∨ r = 1 ∨ r = 2) : combE 2 r = r := by unfold combE; rcases h with rfl | rfl | rfl <;> rfl
theorem combE_end (o : Int) (h : o = 1 ∨ o = 2) (y : List V) : combE o (eqVs [] y) = o := by rw [eqVs_nil]; unfold combE; rcases h with rfl | rfl <;> rfl
theorem combE_zero (o : Int) (a b : V) (x y : List V) (h : eqV a b = 0) : combE o (eqVs (a :: x) (b :: y)) = 0 := by rw [eqVs_cons, if_pos (.inl h)]; rfl
theorem combE_one (o : Int) (a b : V) (x y : List V) (h : eqV a b = 1) : combE o (eqVs (a :: x) (b :: y)) = combE 1 (eqVs x y) := by
  rw [eqVs_cons, h]
  unfold combE
  rcases eqVs_range x y with e | e | e <;> rw [e] <;> simp
theorem combE_some (o : Int) (a b : V) (x y : List V) (h : eqV a b = 2) : combE o (eqVs (a :: x) (b :: y)) = combE o (eqVs x y) := by
  rw [eqVs_cons, h]
  unfold combE
  rcases eqVs_range x y with e | e | e <;> rw [e] <;> simp
end Go.Proofs.YtnkaegdnjfpliaaGreatDoor

/-! Ticks doubled. Plain. -/
namespace Go.Proofs.YtnkaegdnjfpliaaGreatDoor
set_option linter.unusedSimpArgs false
set_option linter.unusedVariables false
theorem index_low : ∀ (s sub : List UInt8), -1 ≤ Lib.index s sub := by
  intro s
  induction s with
  | nil => intro sub; unfold Lib.index; split <;> omega
  | cons b l ih =>
    intro sub
    unfold Lib.index
    have := ih sub
    split
    · omega
    · split <;> omega
theorem replaceK_tick : ∀ (s : List UInt8) (k : Nat), s.count 96 ≤ k → Lib.replaceK [96] [96, 96] k s = s.flatMap tickB := by
  intro s
  induction s with
  | nil =>
    intro k _
    cases k with
    | zero => rfl
    | succ k => rw [Lib.replaceK]; rfl
  | cons b s ih =>
    intro k hk
    rw [List.flatMap_cons]
    by_cases hb : b = 96
    · subst hb
      rw [List.count_cons_self] at hk
      obtain ⟨k', rfl⟩ : ∃ k', k = k' + 1 := ⟨k - 1, by omega⟩
      have hi : Lib.index (96 :: s) [96] = ((0 : Nat) : Int) := by simp [Lib.index, List.isPrefixOf]
      rw [Lib.replaceK_hit _ _ _ _ 0 hi]
      simp only [List.take_zero, List.nil_append, List.length_singleton, Nat.zero_add, List.drop_succ_cons, List.drop_zero]
      rw [ih k' (by omega)]
      rfl
    · have ht : tickB b = [b] := by unfold tickB; rw [if_neg hb]
      have hc : (b :: s).count 96 = s.count 96 := List.count_cons_of_ne (fun h => hb h)
      rw [hc] at hk
      have h := ih k hk
      rw [ht, ← h]
      cases k with
      | zero => rfl
      | succ k =>
        have hi : Lib.index (b :: s) [96] = if Lib.index s [96] == -1 then -1 else Lib.index s [96] + 1 := by
          have : ([96] : List UInt8).isPrefixOf (b :: s) = false := by simp [List.isPrefixOf, Ne.symm hb]
          rw [Lib.index, this]; rfl
        rw [Lib.replaceK, Lib.replaceK, hi]
        by_cases hn : Lib.index s [96] = -1
        · rw [hn]; rfl
        · have hge : 0 ≤ Lib.index s [96] := by
            have := index_low s [96]
            omega
          have e1 : (Lib.index s [96] == -1) = false := by simpa using hn
          rw [e1]
          have e2 : (Lib.index s [96] + 1 == -1) = false := by rw [beq_eq_false_iff_ne]; omega
          simp only [Bool.false_eq_true, if_false, e2]
          have e3 : (Lib.index s [96] + 1).toNat = (Lib.index s [96]).toNat + 1 := by omega
          rw [e3]
          simp [List.take_succ_cons, Nat.add_right_comm]
theorem replaceAll_tick (s : List UInt8) : Lib.replaceAll s [96] [96, 96] = s.flatMap tickB := by
  unfold Lib.replaceAll Lib.replace Lib.replaceNum
  rw [if_neg (by decide), if_pos (.inl (by decide))]
  exact replaceK_tick s _ (by rw [Lib.count_one]; exact Nat.le_refl _)
end Go.Proofs.YtnkaegdnjfpliaaGreatDoor
