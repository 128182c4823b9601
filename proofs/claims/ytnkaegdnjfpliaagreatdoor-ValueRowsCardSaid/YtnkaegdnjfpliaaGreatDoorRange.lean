/- The law of a range over a function, in the form that these proofs use: the iterator's contract is `Iter`, the caller's law is `wp_range`. Nothing of the program is named here. -/
import Derived.Test.YtnkaegdnjfpliaaGreatDoorRows
import Derived.WalkKit
import Derived.WalkSpells
import Derived.WalkLawsBesides
import Derived.RangeFuncLeaves
import Derived.RangeFuncCalls
import Derived.RangeFuncNested
import Derived.OwnWalkIn
import Derived.TacticsInMore
import Derived.LoopNIn
import Derived.LoopIn
namespace Go.Proofs.YtnkaegdnjfpliaaGreatDoor
set_option linter.unusedSimpArgs false
set_option linter.unusedVariables false
open Go.RowKit

/-- The fence that lets everything in. -/
abbrev FW : Fence := Fence.wide
abbrev FR (l : Nat) : Fence := Fence.wide.inRound l

/-- From W to W': blocks that lay stay as they were, but for those in S. -/
structure Touch (S : Nat → Prop) (W W' : World) : Prop where
  os : W'.os = W.os
  tape : W'.tape = W.tape
  output : W'.output = W.output
  size : W.heap.size ≤ W'.heap.size
  block : ∀ b, b < W.heap.size → ¬ S b → W'.heap[b]? = W.heap[b]?

section
variable {S S' : Nat → Prop} {W W' W'' : World}
theorem Touch.refl (S : Nat → Prop) (W : World) : Touch S W W := ⟨rfl, rfl, rfl, Nat.le_refl _, fun _ _ _ => rfl⟩
theorem Touch.trans (h : Touch S W W') (g : Touch S W' W'') : Touch S W W'' :=
  ⟨g.os.trans h.os, g.tape.trans h.tape, g.output.trans h.output, Nat.le_trans h.size g.size, fun b hb hr => (g.block b (Nat.lt_of_lt_of_le hb h.size) hr).trans (h.block b hb hr)⟩
theorem Touch.mono (h : Touch S W W') (hs : ∀ b, b < W.heap.size → S b → S' b) : Touch S' W W' :=
  ⟨h.os, h.tape, h.output, h.size, fun b hb hr => h.block b hb fun hs' => hr (hs b hb hs')⟩
theorem Touch.of_below {B : Nat} (h : Below B W W') (hs : ∀ b, b < W.heap.size → B ≤ b → S b) : Touch S W W' :=
  ⟨h.os, h.tape, h.output, h.size, fun b hb hr => h.block b (Nat.lt_of_not_le fun hle => hr (hs b hb hle))⟩
theorem Touch.grow (h : Touch S W W') (g : Below W'.heap.size W' W'') : Touch S W W'' := h.trans (Touch.of_below g fun b hb hle => absurd hb (by omega))
theorem Touch.alloc (h : Touch S W W') (o : Obj) : Touch S W (W'.alloc o) := h.grow ((Below.refl _ _).alloc (Nat.le_refl _) _)
theorem Touch.drew (h : Touch S W W') : Touch S W W'.drew := ⟨h.os, h.tape, h.output, h.size, h.block⟩
theorem Touch.setCell (h : Touch S W W') {b o : Nat} (hp : S b ∨ W.heap.size ≤ b) (v : Value) : Touch S W (W'.setCell ⟨b, o, none⟩ v) :=
  ⟨h.os, h.tape, h.output, by simpa [World.setCell] using h.size, fun b hb hr => (Below.heap_setCell _ _ _ _ (fun e => by subst e; rcases hp with hp | hp <;> first | exact hr hp | omega)).trans (h.block b hb hr)⟩
theorem Touch.putObj (h : Touch S W W') {l : Nat} (hp : S l ∨ W.heap.size ≤ l) (o : Obj) : Touch S W (W'.putObj l o) :=
  ⟨h.os, h.tape, h.output, by simpa using h.size, fun b hb hr => (World.putObj_heap_other (fun e => by subst e; rcases hp with hp | hp <;> first | exact hr hp | omega)).trans (h.block b hb hr)⟩
theorem Touch.step (h : Touch S W W') (g : Touch S' W' W'') (hs : ∀ b, b < W.heap.size → S' b → S b) : Touch S W W'' :=
  ⟨g.os.trans h.os, g.tape.trans h.tape, g.output.trans h.output, Nat.le_trans h.size g.size, fun b hb hr => (g.block b (Nat.lt_of_lt_of_le hb h.size) fun h' => hr (hs b hb h')).trans (h.block b hb hr)⟩
theorem Touch.heap (g : Touch S W W') {b : Nat} {o : Obj} (h : W.heap[b]? = some o) (h1 : ¬ S b) : W'.heap[b]? = some o :=
  (g.block b (Array.getElem?_eq_some_iff.1 h).1 h1).trans h
theorem Touch.cell (g : Touch S W W') {b o : Nat} {v : Value} (h : W.cell? ⟨b, o, none⟩ = some v) (h1 : ¬ S b) : W'.cell? ⟨b, o, none⟩ = some v :=
  (World.cell?_of_block (w := W) (a := ⟨b, o, none⟩) (g.block b (World.block_lt_of_cell? W _ h) h1)).trans h
theorem Touch.frozen (g : Touch S W W') {b o : Nat} {t : Bool} (h : W.frozen? ⟨b, o, none⟩ = t) (hlt : b < W.heap.size) (h1 : ¬ S b) : W'.frozen? ⟨b, o, none⟩ = t :=
  (World.frozen?_of_block (w := W) (a := ⟨b, o, none⟩) (g.block b hlt h1)).trans h
theorem Touch.below {B : Nat} {w : World} (g : Touch S W W') (h : Below B w W) (h1 : ∀ b, b < B → ¬ S b) (h2 : B ≤ W.heap.size) : Below B w W' :=
  ⟨g.os.trans h.os, g.tape.trans h.tape, g.output.trans h.output, Nat.le_trans h.size g.size, fun b hb => (g.block b (by omega) (h1 b hb)).trans (h.block b hb)⟩
theorem Touch.toBelow {B : Nat} (h : Touch S W W') (hB : B ≤ W.heap.size) (hs : ∀ b, b < B → ¬ S b) : Below B W W' :=
  ⟨h.os, h.tape, h.output, h.size, fun b hb => h.block b (by omega) (hs b hb)⟩
end

/-- What an iterator does between two rounds: blocks that lay stay, but for its own, which are [n0, n0+k). -/
abbrev Keep (n0 k : Nat) (W W' : World) : Prop := Touch (fun b => n0 ≤ b ∧ b < n0 + k) W W'

/-- A call of yield: its run as an equation, and the round's contract. -/
def Yields (P : Program) (l : Nat) (args : Array Value) (W : World) (R : Ending → World → Prop) : Prop :=
  ∃ fn tmps assign body, (Instr.yield l args).run P W = .ok (.round l fn tmps assign body) W ∧ RoundIn FW 0 P l fn tmps assign body W R

def Ended {α : Type} (Done : List α → Prop) (J : List α → World → Prop) (Jx : World → Prop) (W' : World) : Prop := (∃ xs, Done xs ∧ J xs W') ∨ Jx W'

/-- The contract of an iterator: the function gf with the captured lb. `Ok`: the enumerations that may come so far; `Done`: those after which it ends by itself. `Pre`: what it must find in memory at every round. k: how many blocks it lays at its begin and turns later. -/
def Iter {α : Type} (P : Program) (gf : FuncId) (lb : Array Value) (enc : α → Array Value) (Ok Done : List α → Prop) (k : Nat) (Pre : World → Prop) : Prop :=
  ∀ (l : Nat) (J : List α → World → Prop) (Jx : World → Prop) (w : World), l < w.heap.size →
    (∀ pre W, J pre W → Pre W) →
    (∀ pre W W', J pre W → w.heap.size ≤ W.heap.size → Keep w.heap.size k W W' → J pre W') →
    (∀ pre x W, Ok (pre ++ [x]) → J pre W → w.heap.size + k ≤ W.heap.size → Yields P l (enc x) W (fun e W' =>
      (∀ b, w.heap.size ≤ b → b < w.heap.size + k → W'.heap[b]? = W.heap[b]?) ∧ W.heap.size ≤ W'.heap.size ∧
      ((e = .returned (.bool true) ∧ J (pre ++ [x]) W') ∨ (e = .returned (.bool false) ∧ Jx W')))) →
    J [] w →
    CallsIn FW 0 P gf (#[.func (.yield l) #[] #[]] ++ lb) w (fun e W' => e = .returned (.tuple #[]) ∧ Ended Done J Jx W')

/-- The record of a loop. -/
def recOf (fn : FuncId) (tmps : Array Value) (ps : Array Tmp) (assign body : Code) (D : Nat) (st : LoopState) (pend : Option Code) : Obj :=
  .loop { state := st, pending := pend, fn := fn, tmps := tmps, params := ps, assign := assign, body := body, defers := D }

theorem run_getLoop {P : Program} {W : World} {l : Nat} {r : Loop} (h : W.heap[l]? = some (.loop r)) : (Instr.getLoop l).run P W = .ok r W := by
  simp [Instr.getLoop, getObj, Sem.run_bind, Sem.run, h, Result.andThen]

theorem run_beginRound {P : Program} {W : World} {l : Nat} {fn : FuncId} {tmps : Array Value} {ps : Array Tmp} {assign body : Code} {D : Nat}
    (h : W.heap[l]? = some (recOf fn tmps ps assign body D .ready none)) :
    (Instr.beginRound l).run P W = .ok () (W.putObj l (recOf fn tmps ps assign body D .busy none)) := by
  unfold recOf at *
  simp [Instr.beginRound, Sem.run_bind, run_getLoop h, Result.andThen, setObj, Sem.run, h, World.putObj]

theorem run_endRound {P : Program} {W : World} {l : Nat} {fn : FuncId} {tmps : Array Value} {ps : Array Tmp} {assign body : Code} {D : Nat} (jump : Option Code)
    (h : W.heap[l]? = some (recOf fn tmps ps assign body D .busy none)) :
    (Instr.endRound l jump).run P W = .ok (.bool jump.isNone) (W.putObj l (recOf fn tmps ps assign body D (if jump.isNone then .ready else .done) jump)) := by
  unfold recOf at *
  simp [Instr.endRound, Sem.run_bind, run_getLoop h, Result.andThen, setObj, Sem.run, h, World.putObj]

theorem run_endLoop {P : Program} {W : World} {l : Nat} {fn : FuncId} {tmps : Array Value} {ps : Array Tmp} {assign body : Code} {D : Nat} {st : LoopState} {pend : Option Code}
    (hst : st ≠ .busy) (h : W.heap[l]? = some (recOf fn tmps ps assign body D st pend)) :
    (Instr.endLoop l).run P W = .ok pend (W.putObj l (recOf fn tmps ps assign body D .exhausted pend)) := by
  unfold recOf at *
  simp [Instr.endLoop, Sem.run_bind, run_getLoop h, Result.andThen, setObj, Sem.run, h, World.putObj, hst]

theorem run_enterLoop {P : Program} {W : World} {fn : FuncId} {tmps : Array Value} {ps : Array Tmp} {assign body : Code} :
    (Instr.enterLoop fn tmps ps assign body none).run P W =
      .ok (W.heap.size + 1, [{ target := .collected W.heap.size, args := #[] }]) ((W.alloc (.deferred (some []))).alloc (recOf fn tmps ps assign body W.heap.size .ready none)) := by
  simp [Instr.enterLoop, newObj, Sem.run, recOf]

theorem run_yield {P : Program} {W : World} {l : Nat} {fn : FuncId} {tmps : Array Value} {ps : Array Tmp} {assign body : Code} {D : Nat} {st : LoopState} {pend : Option Code} {args : Array Value}
    (hs : args.size = ps.size) (h : W.heap[l]? = some (recOf fn tmps ps assign body D st pend)) :
    (Instr.yield l args).run P W = .ok (.round l fn ((ps.zip args).foldl (fun tmps (t, a) => tmps.setIfInBounds t a) tmps) assign body) W := by
  unfold recOf at *
  simp [Instr.yield, Sem.run_bind, run_getLoop h, Result.andThen, hs]

/-- What the body of a round owes: on: `N`; left by a jump c: `X c`. -/
def roundEnd (N : World → Prop) (X : Code → World → Prop) : Exit → Act → World → Prop
  | .normal, _, W => N W
  | .ret, _, W => X .ret W
  | .exit id, _, W => X (.exit id) W
  | .goto t, _, W => X (.goto t) W
  | .panic _, _, _ => False
  | .outgrown, _, _ => False

theorem enters_plain {P : Program} {gf : FuncId} {fn : Func} (h : P.funcs[gf]? = some fn) (hb : fn.body.isSome = true) (hn : (fn.name == "runtime.NumGoroutine") = false) (args : Array Value) (w : World) :
    (callFunc gf args).run P w = .ok (.enter gf args) w := by
  have hb' : ¬ fn.body = none := by cases hx : fn.body <;> simp_all
  have hn' : ¬ fn.name = "runtime.NumGoroutine" := by simpa using hn
  simp [callFunc, program, Sem.run_bind, Sem.run, Result.andThen, h, hn', hb']

theorem putObj_self {W : World} {l : Nat} {o o' : Obj} (h : W.heap[l]? = some o) : (W.putObj l o').heap[l]? = some o' := by
  obtain ⟨hlt, _⟩ := Array.getElem?_eq_some_iff.1 h
  simp [World.putObj, hlt]

/-- Between the assignment and the body: the record is turned to busy. -/
def Mid (l : Nat) (r r' : Obj) (W w₁ : World) (K : World → Prop) : Prop :=
  Touch (fun _ => False) W w₁ ∧ w₁.heap[l]? = some r ∧ ∀ w₂, w₂ = w₁.putObj l r' → K w₂

/-- The body's own doing. -/
def Over (S : Nat → Prop) (w₂ W' : World) : Prop := Touch S w₂ W'

/-- THE STATEMENT `for .. := range g { body }`, in a frame of no round. -/
theorem wp_range {α : Type} {P : Program} {g : Operand} {ps : Array Tmp} {assign body : Code} {Q : Exit → Act → World → Prop} {a : Act} {w : World}
    {gf : FuncId} {lb : Array Value} {enc : α → Array Value} {Ok Done : List α → Prop} {k : Nat} {Pre : World → Prop} {gfn : Func}
    (hg : a.eval g = .func (.func gf) #[] lb) (hfn : P.funcs[gf]? = some gfn) (hbody : gfn.body.isSome = true) (hname : (gfn.name == "runtime.NumGoroutine") = false)
    (hit : Iter P gf lb enc Ok Done k Pre) (henc : ∀ x, (enc x).size = ps.size)
    (I : List α → World → Prop) (Ix : Code → World → Prop)
    (S : Nat → Prop) (hS : ∀ b, S b → b < w.heap.size ∨ w.heap.size + 2 + k ≤ b)
    (h0 : ∀ W, Below w.heap.size w W → w.heap.size + 2 ≤ W.heap.size → I [] W)
    (hpre : ∀ pre W, I pre W → Pre W)
    (hkeep : ∀ pre W W', I pre W → w.heap.size + 2 ≤ W.heap.size → Keep (w.heap.size + 2) k W W' → I pre W')
    (hput : ∀ pre W o, I pre W → I pre (W.putObj (w.heap.size + 1) o))
    (hputx : ∀ c W o, Ix c W → Ix c (W.putObj (w.heap.size + 1) o))
    (hround : ∀ (r r' : Obj) (pre : List α) (x : α) (W : World), Ok (pre ++ [x]) → I pre W → w.heap.size + 2 + k ≤ W.heap.size → W.heap[w.heap.size + 1]? = some r →
      assign.wpIn (FR (w.heap.size + 1)) 0 P (Exit.then (fun a₁ w₁ => Mid (w.heap.size + 1) r r' W w₁ fun w₂ =>
            body.wpIn (FR (w.heap.size + 1)) 0 P (roundEnd (fun W' => Over S w₂ W' ∧ I (pre ++ [x]) W') (fun c W' => Over S w₂ W' ∧ Ix c W')) a₁ w₂) (fun _ _ _ => False))
        { tmps := (ps.zip (enc x)).foldl (fun tmps (t, a) => tmps.setIfInBounds t a) a.tmps, defers := [] } W)
    (hdone : ∀ xs W, Done xs → I xs W → W.heap[w.heap.size]? = some (.deferred (some [])) → Q .normal { a with defers := { target := .collected w.heap.size, args := #[] } :: a.defers } W)
    (hstop : ∀ c W, Ix c W → W.heap[w.heap.size]? = some (.deferred (some [])) → c.wp P Q { a with defers := { target := .collected w.heap.size, args := #[] } :: a.defers } W) :
    (Code.rangeFunc g ps assign body).wp P Q a w := by
  refine (wpIn_wide (n := 0)).1 (wpIn_rangeFunc fun fn _ => ?_)
  have hD0 : ∀ o, ((w.alloc (.deferred (some []))).alloc o).heap[w.heap.size]? = some (.deferred (some [])) := fun o => by
    rw [Below.heap_alloc _ _ _ (by simp)]; exact heap_alloc_new w _
  have hl0 : ∀ o, ((w.alloc (.deferred (some []))).alloc o).heap[w.heap.size + 1]? = some o := fun o => by
    have := heap_alloc_new (w.alloc (.deferred (some []))) o; simpa using this
  let w₁ := (w.alloc (.deferred (some []))).alloc (recOf fn a.tmps ps assign body w.heap.size .ready none)
  have hsz : w₁.heap.size = w.heap.size + 2 := by simp [w₁]
  refine ⟨_, _, w₁, { target := .fn (.func gf) lb, args := #[.func (.yield (w.heap.size + 1)) #[] #[]] }, w₁, gf, #[.func (.yield (w.heap.size + 1)) #[] #[]] ++ lb, w₁, run_enterLoop, ?_, fun _ _ => trivial, ?_, (fun h => by simp [Fence.wide] at h), ?_⟩
  · have hy : a.eval (.const (.func (.yield (w.heap.size + 1)) #[] #[])) = .func (.yield (w.heap.size + 1)) #[] #[] := rfl
    simp only [resolve, hg, hy, List.map_toArray, List.map_cons, List.map_nil]
    rfl
  · simp only [invoke]; exact enters_plain hfn hbody hname _ _
  · let J : List α → World → Prop := fun pre W => I pre W ∧ W.heap[w.heap.size]? = some (.deferred (some [])) ∧ W.heap[w.heap.size + 1]? = some (recOf fn a.tmps ps assign body w.heap.size .ready none)
    let Jx : World → Prop := fun W => ∃ c, Ix c W ∧ W.heap[w.heap.size]? = some (.deferred (some [])) ∧ W.heap[w.heap.size + 1]? = some (recOf fn a.tmps ps assign body w.heap.size .done (some c))
    have hcall := hit (w.heap.size + 1) J Jx w₁ (by omega) (fun pre W h => hpre pre W h.1) ?_ ?_ ?_
    · have hq : CallsIn FW (0 - 1) P gf (#[.func (.yield (w.heap.size + 1)) #[] #[]] ++ lb) w₁ (rangePost FW 0 P (w.heap.size + 1) Q { a with defers := [{ target := .collected w.heap.size, args := #[] }] ++ a.defers }) := by
        refine ⟨hcall.1, fun cs hr => ?_⟩
        obtain ⟨e, w', fr, ⟨he, hJ⟩, rest⟩ := hcall.2 cs hr
        subst he
        refine ⟨_, w', fr, ?_, rest⟩
        rcases hJ with ⟨xs, hx, hI, hD, hl⟩ | ⟨c, hI, hD, hl⟩
        · refine ⟨none, _, run_endLoop (by simp) hl, ?_⟩
          refine hdone xs _ hx (hput _ _ _ hI) ?_
          rw [World.putObj_heap_other (by omega)]; exact hD
        · refine ⟨some c, _, run_endLoop (by simp) hl, ?_⟩
          refine (wpIn_wide (n := 0)).2 (hstop c _ (hputx _ _ _ hI) ?_)
          rw [World.putObj_heap_other (by omega)]; exact hD
      exact hq
    · rintro pre W W' ⟨hI, hD, hl⟩ hs hk
      rw [hsz] at hk hs
      exact ⟨hkeep pre W W' hI hs hk, hk.heap hD (by omega), hk.heap hl (by omega)⟩
    · rintro pre x W hok ⟨hI, hD, hl⟩ hs
      rw [hsz] at hs
      refine ⟨_, _, _, _, run_yield (henc x) hl, ?_⟩
      refine roundIn_of_wpIn trivial ?_
      have hr := hround _ (recOf fn a.tmps ps assign body w.heap.size .busy none) pre x W hok hI hs hl
      intro b k' cs hb hF hroom
      obtain ⟨e, a', w', hq, harr⟩ := hr b k' cs hb hF hroom
      refine ⟨e, a', w', ?_, harr⟩
      cases e with
      | normal =>
        obtain ⟨htouch, hl1, hbd⟩ := hq
        have hD1 := htouch.heap hD (by simp)
        refine ⟨_, run_beginRound hl1, ?_⟩
        have hl2 : (w'.putObj (w.heap.size + 1) (recOf fn a.tmps ps assign body w.heap.size .busy none)).heap[w.heap.size + 1]? = some (recOf fn a.tmps ps assign body w.heap.size .busy none) :=
          putObj_self hl1
        have hD2 : (w'.putObj (w.heap.size + 1) (recOf fn a.tmps ps assign body w.heap.size .busy none)).heap[w.heap.size]? = some (.deferred (some [])) :=
          (World.putObj_heap_other (by omega)).trans hD1
        have hsz2 : W.heap.size ≤ (w'.putObj (w.heap.size + 1) (recOf fn a.tmps ps assign body w.heap.size .busy none)).heap.size := by simpa using htouch.size
        have hown2 : ∀ b, w.heap.size + 2 ≤ b → b < w.heap.size + 2 + k → (w'.putObj (w.heap.size + 1) (recOf fn a.tmps ps assign body w.heap.size .busy none)).heap[b]? = W.heap[b]? := fun b h1 h2 =>
          (World.putObj_heap_other (by omega)).trans (htouch.block b (by omega) (by simp))
        have hb2 := hbd _ rfl
        generalize w'.putObj (w.heap.size + 1) (recOf fn a.tmps ps assign body w.heap.size .busy none) = w₂ at *
        intro b k' cs hb hF hroom
        obtain ⟨e, a', w'', hq, harr⟩ := hb2 b k' cs hb hF hroom
        refine ⟨e, a', w'', ?_, harr⟩
        have both : ∀ W', Over S w₂ W' → W'.heap[w.heap.size + 1]? = some (recOf fn a.tmps ps assign body w.heap.size .busy none) ∧ W'.heap[w.heap.size]? = some (.deferred (some [])) ∧
            W.heap.size ≤ W'.heap.size ∧ ∀ b, w.heap.size + 2 ≤ b → b < w.heap.size + 2 + k → W'.heap[b]? = W.heap[b]? := fun W' ho =>
          ⟨ho.heap hl2 (fun h => by have := hS _ h; omega), ho.heap hD2 (fun h => by have := hS _ h; omega), Nat.le_trans hsz2 ho.size,
            fun b h1 h2 => (ho.block b (by omega) (fun h => by have := hS _ h; omega)).trans (hown2 b h1 h2)⟩
        have leave : ∀ (c : Code) (W' : World), (Over S w₂ W' ∧ Ix c W') →
            ∃ v w₄, (Instr.endRound (w.heap.size + 1) (some c)).run P W' = .ok v w₄ ∧
              (∀ b, w₁.heap.size ≤ b → b < w₁.heap.size + k → w₄.heap[b]? = W.heap[b]?) ∧ W.heap.size ≤ w₄.heap.size ∧ ((Ending.returned v = .returned (.bool true) ∧ J (pre ++ [x]) w₄) ∨ (Ending.returned v = .returned (.bool false) ∧ Jx w₄)) := by
          rintro c W' ⟨ho, h1⟩
          obtain ⟨hl3, hD3, h2, h3⟩ := both W' ho
          refine ⟨_, _, run_endRound (some c) hl3, fun b hb1 hb2 => ?_, by simpa using h2, .inr ⟨rfl, c, hputx _ _ _ h1, ?_, putObj_self hl3⟩⟩
          · rw [hsz] at hb1 hb2
            rw [World.putObj_heap_other (by omega)]; exact h3 b hb1 hb2
          · rw [World.putObj_heap_other (by omega)]; exact hD3
        cases e with
        | normal =>
          obtain ⟨ho, h1⟩ := hq
          obtain ⟨hl3, hD3, h2, h3⟩ := both w'' ho
          refine ⟨_, _, run_endRound none hl3, fun b hb1 hb2 => ?_, by simpa using h2, .inl ⟨rfl, hput _ _ _ h1, ?_, putObj_self hl3⟩⟩
          · rw [hsz] at hb1 hb2
            rw [World.putObj_heap_other (by omega)]; exact h3 b hb1 hb2
          · rw [World.putObj_heap_other (by omega)]; exact hD3
        | ret => exact leave _ _ hq
        | exit id => exact leave _ _ hq
        | goto t => exact leave _ _ hq
        | panic c => exact hq.elim
        | outgrown => exact hq.elim
      | exit id => exact hq.elim
      | goto t => exact hq.elim
      | ret => exact hq.elim
      | panic c => exact hq.elim
      | outgrown => exact hq.elim
    · refine ⟨h0 _ ?_ (by omega), hD0 _, hl0 _⟩
      exact ((Below.refl _ _).alloc (Nat.le_refl _) _).alloc (by simp) _

/-! One operation whose run is known. -/
section
variable {P : Program} {ops : Array Oper} {Q : Exit → Act → World → Prop} {a : Act} {w w' : World} {rest : List Oper} {o : Oper} {v : Value}
theorem wpList_run (hg : o.guard = none) (hr : (execOp a.eval o).run P w = .ok (.value v) w') (h : wpList P ops Q rest (a.put o.dst v) w') : wpList P ops Q (o :: rest) a w :=
  wpList_plain hg fun K hK => by unfold Oper.wp; rw [hr]; exact hK _ _ h
theorem wpListIn_run {F : Fence} {n : Nat} (hF : ∀ f, F.fn f) (hg : o.guard = none) (hd : ∀ c, o.op ≠ .defer c) (hr : (execOp a.eval o).run P w = .ok (.value v) w') (h : wpListIn F n P ops Q rest (a.put o.dst v) w') :
    wpListIn F n P ops Q (o :: rest) a w :=
  wpListIn_plain hg fun K hK => by
    refine ⟨fun f _ => hF f, ?_⟩
    rw [Oper.semAt_eq _ _ _ hd, hr]; exact hK _ _ h
theorem exec_load {ty : TypeId} {x : Operand} {b : Addr} (ho : o.op = .load ty x) (hx : a.eval x = .pointer (some b)) (hr : (loadVar ty b).run P w = .ok v w) : (execOp a.eval o).run P w = .ok (.value v) w := by
  unfold execOp; rw [ho]
  simp only [hx, Instr.loadAt, Instr.sureAddr, Sem.run_bind, Sem.run_pure, Result.andThen_ok, hr]
theorem exec_store {ty : TypeId} {x y : Operand} {b : Addr} (ho : o.op = .store ty x y) (hx : a.eval x = .pointer (some b)) (hy : a.eval y = v) (hr : (storeVar ty b v).run P w = .ok () w') : (execOp a.eval o).run P w = .ok .skip w' := by
  unfold execOp; rw [ho]
  simp only [hx, hy, Instr.storeAt, Instr.sureAddr, Sem.run_bind, Sem.run_pure, Result.andThen_ok, hr]
theorem wpList_load (hg : o.guard = none) (ty : TypeId) (x : Operand) (b : Addr) (ho : o.op = .load ty x) (hx : a.eval x = .pointer (some b)) (hr : (loadVar ty b).run P w = .ok v w)
    (h : wpList P ops Q rest (a.put o.dst v) w) : wpList P ops Q (o :: rest) a w := wpList_run hg (exec_load ho hx hr) h
theorem wpListIn_load {F : Fence} {n : Nat} (hF : ∀ f, F.fn f) (hg : o.guard = none) (ty : TypeId) (x : Operand) (b : Addr) (ho : o.op = .load ty x) (hx : a.eval x = .pointer (some b)) (hr : (loadVar ty b).run P w = .ok v w)
    (h : wpListIn F n P ops Q rest (a.put o.dst v) w) : wpListIn F n P ops Q (o :: rest) a w := wpListIn_run hF hg (by rw [ho]; simp) (exec_load ho hx hr) h
theorem wpList_store (hg : o.guard = none) (ty : TypeId) (x y : Operand) (b : Addr) (ho : o.op = .store ty x y) (hx : a.eval x = .pointer (some b)) (hy : a.eval y = v) (hr : (storeVar ty b v).run P w = .ok () w')
    (h : wpList P ops Q rest (a.put o.dst undef) w') : wpList P ops Q (o :: rest) a w :=
  wpList_plain hg fun K hK => by unfold Oper.wp; rw [exec_store ho hx hy hr]; exact hK _ _ h
theorem wpListIn_store {F : Fence} {n : Nat} (hF : ∀ f, F.fn f) (hg : o.guard = none) (ty : TypeId) (x y : Operand) (b : Addr) (ho : o.op = .store ty x y) (hx : a.eval x = .pointer (some b)) (hy : a.eval y = v) (hr : (storeVar ty b v).run P w = .ok () w')
    (h : wpListIn F n P ops Q rest (a.put o.dst undef) w') : wpListIn F n P ops Q (o :: rest) a w :=
  wpListIn_plain hg fun K hK => by
    refine ⟨fun f _ => hF f, ?_⟩
    rw [Oper.semAt_eq _ _ _ (by rw [ho]; simp), exec_store ho hx hy hr]; exact hK _ _ h
end

/-! What a caller's invariant is made of: `Below`, and cells of its own. -/
theorem below_putObj {B l : Nat} {w W : World} {o : Obj} (h : Below B w W) (hl : B ≤ l) : Below B w (W.putObj l o) :=
  ⟨h.os, h.tape, h.output, by simpa using h.size, fun b hb => (World.putObj_heap_other (by omega)).trans (h.block b hb)⟩
theorem cell_putObj {l b i : Nat} {W : World} {o : Obj} (hl : b ≠ l) : (W.putObj l o).cell? ⟨b, i, none⟩ = W.cell? ⟨b, i, none⟩ :=
  World.cell?_of_block (w := W) (World.putObj_heap_other hl)
theorem frozen_putObj {l b i : Nat} {W : World} {o : Obj} (hl : b ≠ l) : (W.putObj l o).frozen? ⟨b, i, none⟩ = W.frozen? ⟨b, i, none⟩ :=
  World.frozen?_of_block (w := W) (World.putObj_heap_other hl)
theorem ltOf {b o : Nat} {w : World} {v : Value} (h : w.cell? ⟨b, o, none⟩ = some v) : b < w.heap.size := World.block_lt_of_cell? w _ h
theorem belowBlk {B b : Nat} {w w' : World} {o : Obj} (h : Below B w w') (hb : b < B) (ho : w.heap[b]? = some o) : w'.heap[b]? = some o := (h.block b hb).trans ho
theorem belowCell {B b o : Nat} {w w' : World} {v : Value} (h : Below B w w') (hb : b < B) (ho : w.cell? ⟨b, o, none⟩ = some v) : w'.cell? ⟨b, o, none⟩ = some v := (h.cell (p := ⟨b, o, none⟩) hb).trans ho
theorem belowFrozen {B b o : Nat} {w w' : World} {t : Bool} (h : Below B w w') (hb : b < B) (ho : w.frozen? ⟨b, o, none⟩ = t) : w'.frozen? ⟨b, o, none⟩ = t := (h.frozen (p := ⟨b, o, none⟩) hb).trans ho
theorem belowSet {B b o : Nat} {w w' : World} (h : Below B w w') (hb : B ≤ b) (v : Value) : Below B w (w'.setCell ⟨b, o, none⟩ v) := Below.setCell (p := ⟨b, o, none⟩) h hb v
/-- The block of deferred calls is shut at the function's end. -/
theorem run_takeD {P : Program} {W : World} {D : Nat} (h : W.heap[D]? = some (.deferred (some []))) : (Instr.takeDeferred D).run P W = .ok [] (W.putObj D (.deferred none)) := by
  simp [Instr.takeDeferred, getObj, setObj, Sem.run_bind, Sem.run, h, Result.andThen, World.putObj]
/-- A function with one range over a function returns: the mark is met. -/
theorem leave_mark {P : Program} {fn : Func} {tmps : Array Value} {R : Ending → World → Prop} {D : Nat} {W : World} {v : Value} (h : W.heap[D]? = some (.deferred (some [])))
    (hr : (results fn tmps).run P (W.putObj D (.deferred none)) = .ok v (W.putObj D (.deferred none))) (hR : R (.returned v) (W.putObj D (.deferred none))) :
    LeavesInM FW 0 P fn tmps R [{ target := .collected D, args := #[] }] .returning W :=
  ⟨by simp, .inl ⟨D, _, rfl, run_takeD h, v, hr, hR⟩⟩

/-- A function's contract from its body, where the body holds a range over a function. -/
theorem calls_of_wp_marks {P : Program} {f : FuncId} {fn : Func} {c : Code} {args : Array Value} {w : World} {R : Ending → World → Prop}
    (hf : P.funcs[f]? = some fn) (hb : fn.body = some c)
    (h : c.wp P (bodyPostM FW 0 P fn R) { tmps := args ++ Array.replicate (fn.ntmps - args.size) undef, defers := [] } w) : Calls P f args w R :=
  (callsIn_wide (n := 0)).1 (callsIn_of_wp_marks hf hb trivial ((wpIn_wide (n := 0)).2 h))

end Go.Proofs.YtnkaegdnjfpliaaGreatDoor
