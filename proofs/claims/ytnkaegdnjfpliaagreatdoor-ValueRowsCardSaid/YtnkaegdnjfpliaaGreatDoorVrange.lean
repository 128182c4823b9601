/- The law of a range over a function that keeps memory of its own as it goes. Nothing of the program is named here. -/
import Derived.Test.YtnkaegdnjfpliaaGreatDoorBase
import Derived.OrdersIn
namespace Go.Proofs.YtnkaegdnjfpliaaGreatDoor
set_option linter.unusedSimpArgs false
set_option linter.unusedVariables false
open Go.RowKit

/-- The contract of an iterator whose every block from its begin on is its own: yield turns none of them. -/
def IterA {α : Type} (P : Program) (gf : FuncId) (lb : Array Value) (enc : α → Array Value) (Ok Done : List α → Prop) (Pre : World → Prop) : Prop :=
  ∀ (l : Nat) (J : List α → World → Prop) (Jx : World → Prop) (w : World), l < w.heap.size →
    (∀ pre W, J pre W → Pre W) →
    (∀ pre W W', J pre W → w.heap.size ≤ W.heap.size → Touch (fun b => w.heap.size ≤ b) W W' → J pre W') →
    (∀ pre x W, Ok (pre ++ [x]) → J pre W → w.heap.size ≤ W.heap.size → Yields P l (enc x) W (fun e W' =>
      (∀ b, w.heap.size ≤ b → b < W.heap.size → W'.heap[b]? = W.heap[b]?) ∧ W.heap.size ≤ W'.heap.size ∧
      ((e = .returned (.bool true) ∧ J (pre ++ [x]) W') ∨ (e = .returned (.bool false) ∧ Jx W')))) →
    J [] w →
    CallsIn FW 0 P gf (#[.func (.yield l) #[] #[]] ++ lb) w (fun e W' => e = .returned (.tuple #[]) ∧ Ended Done J Jx W')

/-- THE STATEMENT `for .. := range g { body }`, in a frame of no round. -/
theorem wp_rangeA {α : Type} {P : Program} {g : Operand} {ps : Array Tmp} {assign body : Code} {Q : Exit → Act → World → Prop} {a : Act} {w : World}
    {gf : FuncId} {lb : Array Value} {enc : α → Array Value} {Ok Done : List α → Prop} {Pre : World → Prop} {gfn : Func}
    (hg : a.eval g = .func (.func gf) #[] lb) (hfn : P.funcs[gf]? = some gfn) (hbody : gfn.body.isSome = true) (hname : (gfn.name == "runtime.NumGoroutine") = false)
    (hit : IterA P gf lb enc Ok Done Pre) (henc : ∀ x, (enc x).size = ps.size)
    (I : List α → World → Prop) (Ix : Code → World → Prop)
    (S : Nat → Prop) (hS : ∀ b, S b → b < w.heap.size)
    (h0 : ∀ W, Below w.heap.size w W → w.heap.size + 2 ≤ W.heap.size → I [] W)
    (hpre : ∀ pre W, I pre W → Pre W)
    (hkeep : ∀ pre W W', I pre W → w.heap.size + 2 ≤ W.heap.size → Touch (fun b => w.heap.size + 2 ≤ b) W W' → I pre W')
    (hput : ∀ pre W o, I pre W → I pre (W.putObj (w.heap.size + 1) o))
    (hputx : ∀ c W o, Ix c W → Ix c (W.putObj (w.heap.size + 1) o))
    (hround : ∀ (r r' : Obj) (pre : List α) (x : α) (W : World), Ok (pre ++ [x]) → I pre W → w.heap.size + 2 ≤ W.heap.size → W.heap[w.heap.size + 1]? = some r →
      assign.wpIn (FR (w.heap.size + 1)) 0 P (Exit.then (fun a₁ w₁ => Mid (w.heap.size + 1) r r' W w₁ fun w₂ =>
            body.wpIn (FR (w.heap.size + 1)) 0 P (roundEnd (fun W' => Over S w₂ W' ∧ I (pre ++ [x]) W') (fun c W' => Over S w₂ W' ∧ Ix c W')) a₁ w₂) (fun _ _ _ => False))
        { tmps := (ps.zip (enc x)).foldl (fun tmps (t, a) => tmps.setIfInBounds t a) a.tmps, defers := [] } W)
    (hdone : ∀ xs W, Done xs → I xs W → W.heap[w.heap.size]? = some (.deferred (some [])) → Q .normal { a with defers := { target := .collected w.heap.size, args := #[] } :: a.defers } W)
    (hstop : ∀ c W, Ix c W → W.heap[w.heap.size]? = some (.deferred (some [])) → c.wp P Q { a with defers := { target := .collected w.heap.size, args := #[] } :: a.defers } W) :
    (Code.rangeFunc g ps assign body).wp P Q a w := by
  refine (wpIn_wide (n := 0)).1 (wpIn_rangeFunc fun fn _ => ?_)
  have hD0 : ∀ o, ((w.alloc (.deferred (some []))).alloc o).heap[w.heap.size]? = some (.deferred (some [])) := fun o => by
    rw [Below.heap_alloc _ _ _ (by simp)]; exact heap_alloc_new w _
  have hl0 : ∀ o, ((w.alloc (.deferred (some []))).alloc o).heap[w.heap.size + 1]? = some o := fun o => by
    have := heap_alloc_new (w.alloc (.deferred (some []))) o; simpa using this
  let w₁ := (w.alloc (.deferred (some []))).alloc (recOf fn a.tmps ps assign body w.heap.size .ready none)
  have hsz : w₁.heap.size = w.heap.size + 2 := by simp [w₁]
  refine ⟨_, _, w₁, { target := .fn (.func gf) lb, args := #[.func (.yield (w.heap.size + 1)) #[] #[]] }, w₁, gf, #[.func (.yield (w.heap.size + 1)) #[] #[]] ++ lb, w₁, run_enterLoop, ?_, fun _ _ => trivial, ?_, (fun h => by simp [Fence.wide] at h), ?_⟩
  · have hy : a.eval (.const (.func (.yield (w.heap.size + 1)) #[] #[])) = .func (.yield (w.heap.size + 1)) #[] #[] := rfl
    simp only [resolve, hg, hy, List.map_toArray, List.map_cons, List.map_nil]
    rfl
  · simp only [invoke]; exact enters_plain hfn hbody hname _ _
  · let J : List α → World → Prop := fun pre W => I pre W ∧ W.heap[w.heap.size]? = some (.deferred (some [])) ∧ W.heap[w.heap.size + 1]? = some (recOf fn a.tmps ps assign body w.heap.size .ready none)
    let Jx : World → Prop := fun W => ∃ c, Ix c W ∧ W.heap[w.heap.size]? = some (.deferred (some [])) ∧ W.heap[w.heap.size + 1]? = some (recOf fn a.tmps ps assign body w.heap.size .done (some c))
    have hcall := hit (w.heap.size + 1) J Jx w₁ (by omega) (fun pre W h => hpre pre W h.1) ?_ ?_ ?_
    · have hq : CallsIn FW (0 - 1) P gf (#[.func (.yield (w.heap.size + 1)) #[] #[]] ++ lb) w₁ (rangePost FW 0 P (w.heap.size + 1) Q { a with defers := [{ target := .collected w.heap.size, args := #[] }] ++ a.defers }) := by
        refine ⟨hcall.1, fun cs hr => ?_⟩
        obtain ⟨e, w', fr, ⟨he, hJ⟩, rest⟩ := hcall.2 cs hr
        subst he
        refine ⟨_, w', fr, ?_, rest⟩
        rcases hJ with ⟨xs, hx, hI, hD, hl⟩ | ⟨c, hI, hD, hl⟩
        · refine ⟨none, _, run_endLoop (by simp) hl, ?_⟩
          refine hdone xs _ hx (hput _ _ _ hI) ?_
          rw [World.putObj_heap_other (by omega)]; exact hD
        · refine ⟨some c, _, run_endLoop (by simp) hl, ?_⟩
          refine (wpIn_wide (n := 0)).2 (hstop c _ (hputx _ _ _ hI) ?_)
          rw [World.putObj_heap_other (by omega)]; exact hD
      exact hq
    · rintro pre W W' ⟨hI, hD, hl⟩ hs hk
      rw [hsz] at hk hs
      exact ⟨hkeep pre W W' hI hs hk, hk.heap hD (by omega), hk.heap hl (by omega)⟩
    · rintro pre x W hok ⟨hI, hD, hl⟩ hs
      rw [hsz] at hs
      refine ⟨_, _, _, _, run_yield (henc x) hl, ?_⟩
      refine roundIn_of_wpIn trivial ?_
      have hr := hround _ (recOf fn a.tmps ps assign body w.heap.size .busy none) pre x W hok hI hs hl
      intro b k' cs hb hF hroom
      obtain ⟨e, a', w', hq, harr⟩ := hr b k' cs hb hF hroom
      refine ⟨e, a', w', ?_, harr⟩
      cases e with
      | normal =>
        obtain ⟨htouch, hl1, hbd⟩ := hq
        have hD1 := htouch.heap hD (by simp)
        refine ⟨_, run_beginRound hl1, ?_⟩
        have hl2 : (w'.putObj (w.heap.size + 1) (recOf fn a.tmps ps assign body w.heap.size .busy none)).heap[w.heap.size + 1]? = some (recOf fn a.tmps ps assign body w.heap.size .busy none) :=
          putObj_self hl1
        have hD2 : (w'.putObj (w.heap.size + 1) (recOf fn a.tmps ps assign body w.heap.size .busy none)).heap[w.heap.size]? = some (.deferred (some [])) :=
          (World.putObj_heap_other (by omega)).trans hD1
        have hsz2 : W.heap.size ≤ (w'.putObj (w.heap.size + 1) (recOf fn a.tmps ps assign body w.heap.size .busy none)).heap.size := by simpa using htouch.size
        have hown2 : ∀ b, w.heap.size + 2 ≤ b → b < W.heap.size → (w'.putObj (w.heap.size + 1) (recOf fn a.tmps ps assign body w.heap.size .busy none)).heap[b]? = W.heap[b]? := fun b h1 h2 =>
          (World.putObj_heap_other (by omega)).trans (htouch.block b (by omega) (by simp))
        have hb2 := hbd _ rfl
        generalize w'.putObj (w.heap.size + 1) (recOf fn a.tmps ps assign body w.heap.size .busy none) = w₂ at *
        intro b k' cs hb hF hroom
        obtain ⟨e, a', w'', hq, harr⟩ := hb2 b k' cs hb hF hroom
        refine ⟨e, a', w'', ?_, harr⟩
        have both : ∀ W', Over S w₂ W' → W'.heap[w.heap.size + 1]? = some (recOf fn a.tmps ps assign body w.heap.size .busy none) ∧ W'.heap[w.heap.size]? = some (.deferred (some [])) ∧
            W.heap.size ≤ W'.heap.size ∧ ∀ b, w.heap.size + 2 ≤ b → b < W.heap.size → W'.heap[b]? = W.heap[b]? := fun W' ho =>
          ⟨ho.heap hl2 (fun h => by have := hS _ h; omega), ho.heap hD2 (fun h => by have := hS _ h; omega), Nat.le_trans hsz2 ho.size,
            fun b h1 h2 => (ho.block b (by omega) (fun h => by have := hS _ h; omega)).trans (hown2 b h1 h2)⟩
        have leave : ∀ (c : Code) (W' : World), (Over S w₂ W' ∧ Ix c W') →
            ∃ v w₄, (Instr.endRound (w.heap.size + 1) (some c)).run P W' = .ok v w₄ ∧
              (∀ b, w₁.heap.size ≤ b → b < W.heap.size → w₄.heap[b]? = W.heap[b]?) ∧ W.heap.size ≤ w₄.heap.size ∧ ((Ending.returned v = .returned (.bool true) ∧ J (pre ++ [x]) w₄) ∨ (Ending.returned v = .returned (.bool false) ∧ Jx w₄)) := by
          rintro c W' ⟨ho, h1⟩
          obtain ⟨hl3, hD3, h2, h3⟩ := both W' ho
          refine ⟨_, _, run_endRound (some c) hl3, fun b hb1 hb2 => ?_, by simpa using h2, .inr ⟨rfl, c, hputx _ _ _ h1, ?_, putObj_self hl3⟩⟩
          · rw [hsz] at hb1
            rw [World.putObj_heap_other (by omega)]; exact h3 b hb1 hb2
          · rw [World.putObj_heap_other (by omega)]; exact hD3
        cases e with
        | normal =>
          obtain ⟨ho, h1⟩ := hq
          obtain ⟨hl3, hD3, h2, h3⟩ := both w'' ho
          refine ⟨_, _, run_endRound none hl3, fun b hb1 hb2 => ?_, by simpa using h2, .inl ⟨rfl, hput _ _ _ h1, ?_, putObj_self hl3⟩⟩
          · rw [hsz] at hb1
            rw [World.putObj_heap_other (by omega)]; exact h3 b hb1 hb2
          · rw [World.putObj_heap_other (by omega)]; exact hD3
        | ret => exact leave _ _ hq
        | exit id => exact leave _ _ hq
        | goto t => exact leave _ _ hq
        | panic c => exact hq.elim
        | outgrown => exact hq.elim
      | exit id => exact hq.elim
      | goto t => exact hq.elim
      | ret => exact hq.elim
      | panic c => exact hq.elim
      | outgrown => exact hq.elim
    · refine ⟨h0 _ ?_ (by omega), hD0 _, hl0 _⟩
      exact ((Below.refl _ _).alloc (Nat.le_refl _) _).alloc (by simp) _


section
variable {P : Program} {ops : Array Oper} {a : Act} {w w' : World} {o : Oper} {v : Value} {rest : List Oper}
/-- A region that may call yield and does not draw. -/
theorem yield_region {id : Nat} {l : List Oper} {Q : Exit → Act → World → Prop} (h : wpListIn FW 0 P l.toArray (Only (Q .normal)) l a w) : (Code.region id l.toArray false).wp P Q a w := by
  refine (wpIn_wide (n := 0)).1 ?_
  have h2 := wpIn_region_lit (F := FW) (n := 0) (id := id) h
  intro b k cs h3 h4 h5
  obtain ⟨e, a', w', hq, harr⟩ := h2 b k cs h3 h4 h5
  exact ⟨e, a', w', by cases e <;> first | exact hq | exact hq.elim, harr⟩
theorem listYield {l : Nat} {fn : FuncId} {tmps : Array Value} {assign body : Code} {K : Act → World → Prop} (hg : o.guard = none) (hd : ∀ c, o.op ≠ .defer c) (hx : (execOp a.eval o).run P w = .ok (.round l fn tmps assign body) w)
    (h : RoundIn FW 0 P l fn tmps assign body w fun e w' => ∃ v, e = .returned v ∧ wpListIn FW 0 P ops (Only K) rest (a.put o.dst v) w') : wpListIn FW 0 P ops (Only K) (o :: rest) a w :=
  wpListIn_plain hg fun K' hK => by
    refine ⟨fun f _ => trivial, ?_⟩
    rw [Oper.semAt_eq _ _ _ hd, hx]
    refine ⟨fun h => by simp [Fence.wide] at h, h.mono ?_⟩
    rintro e w' ⟨v, rfl, hk⟩
    exact hK _ _ hk
theorem listRun {K : Act → World → Prop} (hg : o.guard = none) (hd : ∀ c, o.op ≠ .defer c) (hr : (execOp a.eval o).run P w = .ok (.value v) w') (h : wpListIn FW 0 P ops (Only K) rest (a.put o.dst v) w') : wpListIn FW 0 P ops (Only K) (o :: rest) a w :=
  wpListIn_run (fun _ => trivial) hg hd hr h
end
end Go.Proofs.YtnkaegdnjfpliaaGreatDoor
