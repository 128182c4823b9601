/- Texts that the proof shares (each declaration is a lemma of this layer). -/
import Derived.Test.YtihfnegakcghiaaGreatDoorRows
import Derived.WalkKit
import Derived.WalkSpells
import Derived.WalkLawsBesides
import Derived.RangeFuncLeaves
import Derived.RangeFuncCalls
import Derived.RangeFuncNested
import Derived.OwnWalkIn
import Derived.TacticsInMore
import Derived.LoopNIn
import Derived.LoopIn
import Derived.Deep.RegionHeld3
import Derived.Lib.Hide
import Derived.Laws.IdiomStrings
import Derived.Shelf.Small.Bits
import Derived.Shelf.Small.Strs
import Derived.Shelf.Small.Wraps
import Derived.Shelf.Strconv.Itoa0
import Derived.Shelf.Strings.Search1
import Derived.Shelf.Slices.Equal
import Derived.Ground.Names2Prog
import Derived.Shelf.Slices.Clone
import Derived.Shelf.Slices.CompactS
import Derived.Shelf.Slices.SearchI
import Derived.Shelf.Slices.Empties2
import Derived.Ground.SlgnProg
import Derived.Shelf.SlicesG.Delete
import Derived.Shelf.SlicesG.SearchI
import Derived.Shelf.SlicesE.Equal
import Derived.Shelf.SlicesE.Compact
import Derived.Shelf.SlicesE.Delete
import Derived.Shelf.SlicesE.Clone
import Derived.Ground.SlgfProg
import Derived.Shelf.SlicesE.IndexFunc
import Derived.Ground.SlgmProg
import Derived.Shelf.SortM.Plain
import Derived.Shelf.SortM.SortNone
import Derived.Test.YtihfnegakcghiaaGreatDoorProg
import Derived.Lib.Join
import Derived.Lib.ItoaNum
import Derived.Lib.Bytealg
import Derived.Lib.Small
import Derived.Lib.Replace
import Derived.Shelf.Unicode.ValidAny
import Derived.Ground.NamesProg
import Derived.Lib.ValidU
import Derived.Lib.ValidLaws
import Derived.OwnWalk
import Derived.Lib.Builder
import Derived.Lib.UnsafeStr
import Derived.OrdersIn
import Derived.RecoverIn
import Derived.Lib.SplitLaws
import Derived.Lib.ItoaLen
import Derived.Lib.AppendIntMem
import Derived.Below
import Derived.ChangeSame
import Derived.ProofKit
import Derived.OpenShut
import Derived.Carry
import Derived.Lib.SmallJoins
import Derived.Deep.Slices
import Derived.SliceStrings
import Derived.Test.YtihfnegakcghiaaGreatDoorCards
import Derived.Lib.LaidU8
import Derived.Shelf.Vars
import Derived.Lay
import Derived.LaidMore
import Derived.HandedShaped
import Derived.Stop.Joined
import Derived.Deep.DeepHandedRow
set_option linter.unusedSimpArgs false
set_option linter.unusedVariables false
set_option linter.unnecessarySimpa false
set_option maxRecDepth 100000
set_option maxHeartbeats 64000000
namespace Go.Proofs.YtihfnegakcghiaaGreatDoor
theorem yh {p : Prop} (h : p) : Go.RowKit.Hid p := h
open Go.RowKit
abbrev FW : Fence:=Fence.wide
abbrev FR (l : Nat) : Fence:=Fence.wide.inRound l
structure Touch (S : Nat → Prop) (W W' : World) : Prop where
 os : W'.os = W.os
 tape : W'.tape = W.tape
 output : W'.output = W.output
 size : W.heap.size ≤ W'.heap.size
 block : ∀ b,b < W.heap.size → ¬ S b → W'.heap[b]? = W.heap[b]?
section
variable {S S' : Nat → Prop} {W W' W'' : World}
theorem Touch.refl (S : Nat → Prop) (W : World) : Touch S W W:=⟨rfl,rfl,rfl,Nat.le_refl _,fun _ _ _=>rfl⟩
theorem Touch.trans (h : Touch S W W') (g : Touch S W' W'') : Touch S W W'' :=
 ⟨g.os.trans h.os,g.tape.trans h.tape,g.output.trans h.output,Nat.le_trans h.size g.size,fun b hb hr=>(g.block b (Nat.lt_of_lt_of_le hb h.size) hr).trans (h.block b hb hr)⟩
theorem Touch.mono (h : Touch S W W') (hs : ∀ b,b < W.heap.size → S b → S' b) : Touch S' W W' :=
 ⟨h.os,h.tape,h.output,h.size,fun b hb hr=>h.block b hb fun hs'=>hr (hs b hb hs')⟩
theorem Touch.of_below {B : Nat} (h : Below B W W') (hs : ∀ b,b < W.heap.size → B ≤ b → S b) : Touch S W W' :=
 ⟨h.os,h.tape,h.output,h.size,fun b hb hr=>h.block b (Nat.lt_of_not_le fun hle=>hr (hs b hb hle))⟩
theorem Touch.grow (h : Touch S W W') (g : Below W'.heap.size W' W'') : Touch S W W'':=h.trans (Touch.of_below g fun b hb hle=>absurd hb (by omega))
theorem Touch.alloc (h : Touch S W W') (o : Obj) : Touch S W (W'.alloc o):=h.grow ((Below.refl _ _).alloc (Nat.le_refl _) _)
theorem Touch.drew (h : Touch S W W') : Touch S W W'.drew:=⟨h.os,h.tape,h.output,h.size,h.block⟩
theorem Touch.setCell (h : Touch S W W') {b o : Nat} (hp : S b ∨ W.heap.size ≤ b) (v : Value) : Touch S W (W'.setCell ⟨b,o,none⟩ v) :=
 ⟨h.os,h.tape,h.output,by simpa [World.setCell] using h.size,fun b hb hr=>(Below.heap_setCell _ _ _ _ (fun e=>by subst e;rcases hp with hp | hp <;> first | exact hr hp | omega)).trans (h.block b hb hr)⟩
theorem Touch.putObj (h : Touch S W W') {l : Nat} (hp : S l ∨ W.heap.size ≤ l) (o : Obj) : Touch S W (W'.putObj l o) :=
 ⟨h.os,h.tape,h.output,by simpa using h.size,fun b hb hr=>(World.putObj_heap_other (fun e=>by subst e;rcases hp with hp | hp <;> first | exact hr hp | omega)).trans (h.block b hb hr)⟩
theorem Touch.step (h : Touch S W W') (g : Touch S' W' W'') (hs : ∀ b,b < W.heap.size → S' b → S b) : Touch S W W'' :=
 ⟨g.os.trans h.os,g.tape.trans h.tape,g.output.trans h.output,Nat.le_trans h.size g.size,fun b hb hr=>(g.block b (Nat.lt_of_lt_of_le hb h.size) fun h'=>hr (hs b hb h')).trans (h.block b hb hr)⟩
theorem Touch.heap (g : Touch S W W') {b : Nat} {o : Obj} (h : W.heap[b]? = some o) (h1 : ¬ S b) : W'.heap[b]? = some o :=
 (g.block b (Array.getElem?_eq_some_iff.1 h).1 h1).trans h
theorem Touch.cell (g : Touch S W W') {b o : Nat} {v : Value} (h : W.cell? ⟨b,o,none⟩ = some v) (h1 : ¬ S b) : W'.cell? ⟨b,o,none⟩ = some v :=
 (World.cell?_of_block (w:=W) (a:=⟨b,o,none⟩) (g.block b (World.block_lt_of_cell? W _ h) h1)).trans h
theorem Touch.frozen (g : Touch S W W') {b o : Nat} {t : Bool} (h : W.frozen? ⟨b,o,none⟩ = t) (hlt : b < W.heap.size) (h1 : ¬ S b) : W'.frozen? ⟨b,o,none⟩ = t :=
 (World.frozen?_of_block (w:=W) (a:=⟨b,o,none⟩) (g.block b hlt h1)).trans h
theorem Touch.below {B : Nat} {w : World} (g : Touch S W W') (h : Below B w W) (h1 : ∀ b,b < B → ¬ S b) (h2 : B ≤ W.heap.size) : Below B w W' :=
 ⟨g.os.trans h.os,g.tape.trans h.tape,g.output.trans h.output,Nat.le_trans h.size g.size,fun b hb=>(g.block b (by omega) (h1 b hb)).trans (h.block b hb)⟩
end
abbrev Keep (n0 k : Nat) (W W' : World) : Prop:=Touch (fun b=>n0 ≤ b ∧ b < n0 + k) W W'
def Yields (P : Program) (l : Nat) (args : Array Value) (W : World) (R : Ending → World → Prop) : Prop :=
 ∃ fn tmps assign body,(Instr.yield l args).run P W = .ok (.round l fn tmps assign body) W ∧ RoundIn FW 0 P l fn tmps assign body W R
def Ended {α : Type} (Done : List α → Prop) (J : List α → World → Prop) (Jx : World → Prop) (W' : World) : Prop:=(∃ xs,Done xs ∧ J xs W') ∨ Jx W'
def Iter {α : Type} (P : Program) (gf : FuncId) (lb : Array Value) (enc : α → Array Value) (Ok Done : List α → Prop) (k : Nat) (Pre : World → Prop) : Prop :=
 ∀ (l : Nat) (J : List α → World → Prop) (Jx : World → Prop) (w : World),l < w.heap.size →
  (∀ pre W,J pre W → Pre W) →
  (∀ pre W W',J pre W → w.heap.size ≤ W.heap.size → Keep w.heap.size k W W' → J pre W') →
  (∀ pre x W,Ok (pre ++ [x]) → J pre W → w.heap.size + k ≤ W.heap.size → Yields P l (enc x) W (fun e W' =>
    (∀ b,w.heap.size ≤ b → b < w.heap.size + k → W'.heap[b]? = W.heap[b]?) ∧ W.heap.size ≤ W'.heap.size ∧
    ((e = .returned (.bool true) ∧ J (pre ++ [x]) W') ∨ (e = .returned (.bool false) ∧ Jx W')))) →
  J [] w →
  CallsIn FW 0 P gf (#[.func (.yield l) #[] #[]] ++ lb) w (fun e W'=>e = .returned (.tuple #[]) ∧ Ended Done J Jx W')
def recOf (fn : FuncId) (tmps : Array Value) (ps : Array Tmp) (assign body : Code) (D : Nat) (st : LoopState) (pend : Option Code) : Obj :=
 .loop { state:=st,pending:=pend,fn:=fn,tmps:=tmps,params:=ps,assign:=assign,body:=body,defers:=D }
theorem Kde {P : Program} {W : World} {l : Nat} {r : Loop} (h : W.heap[l]? = some (.loop r)) : (Instr.getLoop l).run P W = .ok r W:=by
 simp [Instr.getLoop,getObj,Sem.run_bind,Sem.run,h,Result.andThen]
theorem run_beginRound {P : Program} {W : World} {l : Nat} {fn : FuncId} {tmps : Array Value} {ps : Array Tmp} {assign body : Code} {D : Nat}
 (h : W.heap[l]? = some (recOf fn tmps ps assign body D .ready none)) :
 (Instr.beginRound l).run P W = .ok () (W.putObj l (recOf fn tmps ps assign body D .busy none)):=by
 unfold recOf at *
 simp [Instr.beginRound,Sem.run_bind,Kde h,Result.andThen,setObj,Sem.run,h,World.putObj]
theorem Kcw {P : Program} {W : World} {l : Nat} {fn : FuncId} {tmps : Array Value} {ps : Array Tmp} {assign body : Code} {D : Nat} (jump : Option Code)
 (h : W.heap[l]? = some (recOf fn tmps ps assign body D .busy none)) :
 (Instr.endRound l jump).run P W = .ok (.bool jump.isNone) (W.putObj l (recOf fn tmps ps assign body D (if jump.isNone then .ready else .done) jump)):=by
 unfold recOf at *
 simp [Instr.endRound,Sem.run_bind,Kde h,Result.andThen,setObj,Sem.run,h,World.putObj]
theorem Kdj {P : Program} {W : World} {l : Nat} {fn : FuncId} {tmps : Array Value} {ps : Array Tmp} {assign body : Code} {D : Nat} {st : LoopState} {pend : Option Code}
 (hst : st ≠ .busy) (h : W.heap[l]? = some (recOf fn tmps ps assign body D st pend)) :
 (Instr.endLoop l).run P W = .ok pend (W.putObj l (recOf fn tmps ps assign body D .exhausted pend)):=by
 unfold recOf at *
 simp [Instr.endLoop,Sem.run_bind,Kde h,Result.andThen,setObj,Sem.run,h,World.putObj,hst]
theorem run_enterLoop {P : Program} {W : World} {fn : FuncId} {tmps : Array Value} {ps : Array Tmp} {assign body : Code} :
 (Instr.enterLoop fn tmps ps assign body none).run P W =
   .ok (W.heap.size + 1,[{ target:=.collected W.heap.size,args:=#[] }]) ((W.alloc (.deferred (some []))).alloc (recOf fn tmps ps assign body W.heap.size .ready none)):=by
 simp [Instr.enterLoop,newObj,Sem.run,recOf]
theorem run_yield {P : Program} {W : World} {l : Nat} {fn : FuncId} {tmps : Array Value} {ps : Array Tmp} {assign body : Code} {D : Nat} {st : LoopState} {pend : Option Code} {args : Array Value}
 (hs : args.size = ps.size) (h : W.heap[l]? = some (recOf fn tmps ps assign body D st pend)) :
 (Instr.yield l args).run P W = .ok (.round l fn ((ps.zip args).foldl (fun tmps (t,a)=>tmps.setIfInBounds t a) tmps) assign body) W:=by
 unfold recOf at *
 simp [Instr.yield,Sem.run_bind,Kde h,Result.andThen,hs]
def roundEnd (N : World → Prop) (X : Code → World → Prop) : Exit → Act → World → Prop
 | .normal,_,W=>N W
 | .ret,_,W=>X .ret W
 | .exit id,_,W=>X (.exit id) W
 | .goto t,_,W=>X (.goto t) W
 | .panic _,_,_=>False
 | .outgrown,_,_=>False
theorem Kb2 {P : Program} {gf : FuncId} {fn : Func} (h : P.funcs[gf]? = some fn) (hb : fn.body.isSome = true) (hn : (fn.name == "runtime.NumGoroutine") = false) (args : Array Value) (w : World) :
 (callFunc gf args).run P w = .ok (.enter gf args) w:=by
 have hb' : ¬ fn.body = none:=by cases hx : fn.body <;> simp_all
 have hn' : ¬ fn.name = "runtime.NumGoroutine" := by simpa using hn
 simp [callFunc,program,Sem.run_bind,Sem.run,Result.andThen,h,hn',hb']
theorem Ka8 {W : World} {l : Nat} {o o' : Obj} (h : W.heap[l]? = some o) : (W.putObj l o').heap[l]? = some o':=by
 obtain ⟨hlt,_⟩:=Array.getElem?_eq_some_iff.1 h
 simp [World.putObj,hlt]
def Mid (l : Nat) (r r' : Obj) (W w₁ : World) (K : World → Prop) : Prop :=
 Touch (fun _=>False) W w₁ ∧ w₁.heap[l]? = some r ∧ ∀ w₂,w₂ = w₁.putObj l r' → K w₂
def Over (S : Nat → Prop) (w₂ W' : World) : Prop:=Touch S w₂ W'
theorem wp_range {α : Type} {P : Program} {g : Operand} {ps : Array Tmp} {assign body : Code} {Q : Exit → Act → World → Prop} {a : Act} {w : World}
 {gf : FuncId} {lb : Array Value} {enc : α → Array Value} {Ok Done : List α → Prop} {k : Nat} {Pre : World → Prop} {gfn : Func}
 (hg : a.eval g = .func (.func gf) #[] lb) (hfn : P.funcs[gf]? = some gfn) (hbody : gfn.body.isSome = true) (hname : (gfn.name == "runtime.NumGoroutine") = false)
 (hit : Iter P gf lb enc Ok Done k Pre) (henc : ∀ x,(enc x).size = ps.size)
 (I : List α → World → Prop) (Ix : Code → World → Prop)
 (S : Nat → Prop) (hS : ∀ b,S b → b < w.heap.size ∨ w.heap.size + 2 + k ≤ b)
 (h0 : ∀ W,Below w.heap.size w W → w.heap.size + 2 ≤ W.heap.size → I [] W)
 (hpre : ∀ pre W,I pre W → Pre W)
 (hkeep : ∀ pre W W',I pre W → w.heap.size + 2 ≤ W.heap.size → Keep (w.heap.size + 2) k W W' → I pre W')
 (hput : ∀ pre W o,I pre W → I pre (W.putObj (w.heap.size + 1) o))
 (hputx : ∀ c W o,Ix c W → Ix c (W.putObj (w.heap.size + 1) o))
 (hround : ∀ (r r' : Obj) (pre : List α) (x : α) (W : World),Ok (pre ++ [x]) → I pre W → w.heap.size + 2 + k ≤ W.heap.size → W.heap[w.heap.size + 1]? = some r →
   assign.wpIn (FR (w.heap.size + 1)) 0 P (Exit.then (fun a₁ w₁=>Mid (w.heap.size + 1) r r' W w₁ fun w₂ =>
    body.wpIn (FR (w.heap.size + 1)) 0 P (roundEnd (fun W'=>Over S w₂ W' ∧ I (pre ++ [x]) W') (fun c W'=>Over S w₂ W' ∧ Ix c W')) a₁ w₂) (fun _ _ _=>False))
    { tmps:=(ps.zip (enc x)).foldl (fun tmps (t,a)=>tmps.setIfInBounds t a) a.tmps,defers:=[] } W)
 (hdone : ∀ xs W,Done xs → I xs W → W.heap[w.heap.size]? = some (.deferred (some [])) → Q .normal { a with defers:={ target:=.collected w.heap.size,args:=#[] } :: a.defers } W)
 (hstop : ∀ c W,Ix c W → W.heap[w.heap.size]? = some (.deferred (some [])) → c.wp P Q { a with defers:={ target:=.collected w.heap.size,args:=#[] } :: a.defers } W) :
 (Code.rangeFunc g ps assign body).wp P Q a w:=by
 refine (wpIn_wide (n:=0)).1 (wpIn_rangeFunc fun fn _=>?_)
 have hD0 : ∀ o,((w.alloc (.deferred (some []))).alloc o).heap[w.heap.size]? = some (.deferred (some [])):=fun o=>by
  rw [Below.heap_alloc _ _ _ (by simp)];exact heap_alloc_new w _
 have hl0 : ∀ o,((w.alloc (.deferred (some []))).alloc o).heap[w.heap.size + 1]? = some o:=fun o=>by
  have:=heap_alloc_new (w.alloc (.deferred (some []))) o;simpa using this
 let w₁:=(w.alloc (.deferred (some []))).alloc (recOf fn a.tmps ps assign body w.heap.size .ready none)
 have hsz : w₁.heap.size = w.heap.size + 2:=by simp [w₁]
 refine ⟨_,_,w₁,{ target:=.fn (.func gf) lb,args:=#[.func (.yield (w.heap.size + 1)) #[] #[]] },w₁,gf,#[.func (.yield (w.heap.size + 1)) #[] #[]] ++ lb,w₁,run_enterLoop,?_,fun _ _=>trivial,?_,(fun h=>by simp [Fence.wide] at h),?_⟩
 ·have hy : a.eval (.const (.func (.yield (w.heap.size + 1)) #[] #[])) = .func (.yield (w.heap.size + 1)) #[] #[]:=rfl
  simp only [resolve,hg,hy,List.map_toArray,List.map_cons,List.map_nil]
  rfl
 ·simp only [invoke];exact Kb2 hfn hbody hname _ _
 ·let J : List α → World → Prop:=fun pre W=>I pre W ∧ W.heap[w.heap.size]? = some (.deferred (some [])) ∧ W.heap[w.heap.size + 1]? = some (recOf fn a.tmps ps assign body w.heap.size .ready none)
  let Jx : World → Prop:=fun W=>∃ c,Ix c W ∧ W.heap[w.heap.size]? = some (.deferred (some [])) ∧ W.heap[w.heap.size + 1]? = some (recOf fn a.tmps ps assign body w.heap.size .done (some c))
  have hcall:=hit (w.heap.size + 1) J Jx w₁ (by omega) (fun pre W h=>hpre pre W h.1) ?_ ?_ ?_
  ·have hq : CallsIn FW (0 - 1) P gf (#[.func (.yield (w.heap.size + 1)) #[] #[]] ++ lb) w₁ (rangePost FW 0 P (w.heap.size + 1) Q { a with defers:=[{ target:=.collected w.heap.size,args:=#[] }] ++ a.defers }):=by
    refine ⟨hcall.1,fun cs hr=>?_⟩
    obtain ⟨e,w',fr,⟨he,hJ⟩,rest⟩:=hcall.2 cs hr
    subst he
    refine ⟨_,w',fr,?_,rest⟩
    rcases hJ with ⟨xs,hx,hI,hD,hl⟩ | ⟨c,hI,hD,hl⟩
    ·refine ⟨none,_,Kdj (by simp) hl,?_⟩
     refine hdone xs _ hx (hput _ _ _ hI) ?_
     rw [World.putObj_heap_other (by omega)];exact hD
    ·refine ⟨some c,_,Kdj (by simp) hl,?_⟩
     refine (wpIn_wide (n:=0)).2 (hstop c _ (hputx _ _ _ hI) ?_)
     rw [World.putObj_heap_other (by omega)];exact hD
   exact hq
  ·rintro pre W W' ⟨hI,hD,hl⟩ hs hk
   rw [hsz] at hk hs
   exact ⟨hkeep pre W W' hI hs hk,hk.heap hD (by omega),hk.heap hl (by omega)⟩
  ·rintro pre x W hok ⟨hI,hD,hl⟩ hs
   rw [hsz] at hs
   refine ⟨_,_,_,_,run_yield (henc x) hl,?_⟩
   refine roundIn_of_wpIn trivial ?_
   have hr:=hround _ (recOf fn a.tmps ps assign body w.heap.size .busy none) pre x W hok hI hs hl
   intro b k' cs hb hF hroom
   obtain ⟨e,a',w',hq,harr⟩:=hr b k' cs hb hF hroom
   refine ⟨e,a',w',?_,harr⟩
   cases e with
   | normal =>
     obtain ⟨htouch,hl1,hbd⟩:=hq
     have hD1:=htouch.heap hD (by simp)
     refine ⟨_,run_beginRound hl1,?_⟩
     have hl2 : (w'.putObj (w.heap.size + 1) (recOf fn a.tmps ps assign body w.heap.size .busy none)).heap[w.heap.size + 1]? = some (recOf fn a.tmps ps assign body w.heap.size .busy none) :=
      Ka8 hl1
     have hD2 : (w'.putObj (w.heap.size + 1) (recOf fn a.tmps ps assign body w.heap.size .busy none)).heap[w.heap.size]? = some (.deferred (some [])) :=
      (World.putObj_heap_other (by omega)).trans hD1
     have hsz2 : W.heap.size ≤ (w'.putObj (w.heap.size + 1) (recOf fn a.tmps ps assign body w.heap.size .busy none)).heap.size:=by simpa using htouch.size
     have hown2 : ∀ b,w.heap.size + 2 ≤ b → b < w.heap.size + 2 + k → (w'.putObj (w.heap.size + 1) (recOf fn a.tmps ps assign body w.heap.size .busy none)).heap[b]? = W.heap[b]?:=fun b h1 h2 =>
      (World.putObj_heap_other (by omega)).trans (htouch.block b (by omega) (by simp))
     have hb2:=hbd _ rfl
     generalize w'.putObj (w.heap.size + 1) (recOf fn a.tmps ps assign body w.heap.size .busy none) = w₂ at *
     intro b k' cs hb hF hroom
     obtain ⟨e,a',w'',hq,harr⟩:=hb2 b k' cs hb hF hroom
     refine ⟨e,a',w'',?_,harr⟩
     have both : ∀ W',Over S w₂ W' → W'.heap[w.heap.size + 1]? = some (recOf fn a.tmps ps assign body w.heap.size .busy none) ∧ W'.heap[w.heap.size]? = some (.deferred (some [])) ∧
      W.heap.size ≤ W'.heap.size ∧ ∀ b,w.heap.size + 2 ≤ b → b < w.heap.size + 2 + k → W'.heap[b]? = W.heap[b]?:=fun W' ho =>
      ⟨ho.heap hl2 (fun h=>by have:=hS _ h;omega),ho.heap hD2 (fun h=>by have:=hS _ h;omega),Nat.le_trans hsz2 ho.size,
        fun b h1 h2=>(ho.block b (by omega) (fun h=>by have:=hS _ h;omega)).trans (hown2 b h1 h2)⟩
     have leave : ∀ (c : Code) (W' : World),(Over S w₂ W' ∧ Ix c W') →
      ∃ v w₄,(Instr.endRound (w.heap.size + 1) (some c)).run P W' = .ok v w₄ ∧
       (∀ b,w₁.heap.size ≤ b → b < w₁.heap.size + k → w₄.heap[b]? = W.heap[b]?) ∧ W.heap.size ≤ w₄.heap.size ∧ ((Ending.returned v = .returned (.bool true) ∧ J (pre ++ [x]) w₄) ∨ (Ending.returned v = .returned (.bool false) ∧ Jx w₄)):=by
      rintro c W' ⟨ho,h1⟩
      obtain ⟨hl3,hD3,h2,h3⟩:=both W' ho
      refine ⟨_,_,Kcw (some c) hl3,fun b hb1 hb2=>?_,by simpa using h2,.inr ⟨rfl,c,hputx _ _ _ h1,?_,Ka8 hl3⟩⟩
      ·rw [hsz] at hb1 hb2
       rw [World.putObj_heap_other (by omega)];exact h3 b hb1 hb2
      ·rw [World.putObj_heap_other (by omega)];exact hD3
     cases e with
     | normal =>
       obtain ⟨ho,h1⟩:=hq
       obtain ⟨hl3,hD3,h2,h3⟩:=both w'' ho
       refine ⟨_,_,Kcw none hl3,fun b hb1 hb2=>?_,by simpa using h2,.inl ⟨rfl,hput _ _ _ h1,?_,Ka8 hl3⟩⟩
       ·rw [hsz] at hb1 hb2
        rw [World.putObj_heap_other (by omega)];exact h3 b hb1 hb2
       ·rw [World.putObj_heap_other (by omega)];exact hD3
     | ret=>exact leave _ _ hq
     | exit id=>exact leave _ _ hq
     | goto t=>exact leave _ _ hq
     | panic c=>exact hq.elim
     | outgrown=>exact hq.elim
   | exit id=>exact hq.elim
   | goto t=>exact hq.elim
   | ret=>exact hq.elim
   | panic c=>exact hq.elim
   | outgrown=>exact hq.elim
  ·refine ⟨h0 _ ?_ (by omega),hD0 _,hl0 _⟩
   exact ((Below.refl _ _).alloc (Nat.le_refl _) _).alloc (by simp) _
section
variable {P : Program} {ops : Array Oper} {Q : Exit → Act → World → Prop} {a : Act} {w w' : World} {rest : List Oper} {o : Oper} {v : Value}
theorem Kb4 (hg : o.guard = none) (hr : (execOp a.eval o).run P w = .ok (.value v) w') (h : wpList P ops Q rest (a.put o.dst v) w') : wpList P ops Q (o :: rest) a w :=
 wpList_plain hg fun K hK=>by unfold Oper.wp;rw [hr];exact hK _ _ h
theorem wpListIn_run {F : Fence} {n : Nat} (hF : ∀ f,F.fn f) (hg : o.guard = none) (hd : ∀ c,o.op ≠ .defer c) (hr : (execOp a.eval o).run P w = .ok (.value v) w') (h : wpListIn F n P ops Q rest (a.put o.dst v) w') :
 wpListIn F n P ops Q (o :: rest) a w :=
 wpListIn_plain hg fun K hK=>by
  refine ⟨fun f _=>hF f,?_⟩
  rw [Oper.semAt_eq _ _ _ hd,hr];exact hK _ _ h
theorem Kaf {ty : TypeId} {x : Operand} {b : Addr} (ho : o.op = .load ty x) (hx : a.eval x = .pointer (some b)) (hr : (loadVar ty b).run P w = .ok v w) : (execOp a.eval o).run P w = .ok (.value v) w:=by
 unfold execOp;rw [ho]
 simp only [hx,Instr.loadAt,Instr.sureAddr,Sem.run_bind,Sem.run_pure,Result.andThen_ok,hr]
theorem Kc8 {ty : TypeId} {x y : Operand} {b : Addr} (ho : o.op = .store ty x y) (hx : a.eval x = .pointer (some b)) (hy : a.eval y = v) (hr : (storeVar ty b v).run P w = .ok () w') : (execOp a.eval o).run P w = .ok .skip w':=by
 unfold execOp;rw [ho]
 simp only [hx,hy,Instr.storeAt,Instr.sureAddr,Sem.run_bind,Sem.run_pure,Result.andThen_ok,hr]
theorem Kca (hg : o.guard = none) (ty : TypeId) (x : Operand) (b : Addr) (ho : o.op = .load ty x) (hx : a.eval x = .pointer (some b)) (hr : (loadVar ty b).run P w = .ok v w)
 (h : wpList P ops Q rest (a.put o.dst v) w) : wpList P ops Q (o :: rest) a w:=Kb4 hg (Kaf ho hx hr) h
theorem Kav (hg : o.guard = none) (ty : TypeId) (x y : Operand) (b : Addr) (ho : o.op = .store ty x y) (hx : a.eval x = .pointer (some b)) (hy : a.eval y = v) (hr : (storeVar ty b v).run P w = .ok () w')
 (h : wpList P ops Q rest (a.put o.dst undef) w') : wpList P ops Q (o :: rest) a w :=
 wpList_plain hg fun K hK=>by unfold Oper.wp;rw [Kc8 ho hx hy hr];exact hK _ _ h
end
theorem Kc1 {B l : Nat} {w W : World} {o : Obj} (h : Below B w W) (hl : B ≤ l) : Below B w (W.putObj l o) :=
 ⟨h.os,h.tape,h.output,by simpa using h.size,fun b hb=>(World.putObj_heap_other (by omega)).trans (h.block b hb)⟩
theorem cell_putObj {l b i : Nat} {W : World} {o : Obj} (hl : b ≠ l) : (W.putObj l o).cell? ⟨b,i,none⟩ = W.cell? ⟨b,i,none⟩ :=
 World.cell?_of_block (w:=W) (World.putObj_heap_other hl)
theorem ltOf {b o : Nat} {w : World} {v : Value} (h : w.cell? ⟨b,o,none⟩ = some v) : b < w.heap.size:=World.block_lt_of_cell? w _ h
theorem Kai {B b : Nat} {w w' : World} {o : Obj} (h : Below B w w') (hb : b < B) (ho : w.heap[b]? = some o) : w'.heap[b]? = some o:=(h.block b hb).trans ho
theorem Kae {B b o : Nat} {w w' : World} {v : Value} (h : Below B w w') (hb : b < B) (ho : w.cell? ⟨b,o,none⟩ = some v) : w'.cell? ⟨b,o,none⟩ = some v:=(h.cell (p:=⟨b,o,none⟩) hb).trans ho
theorem Kce {B b o : Nat} {w w' : World} (h : Below B w w') (hb : B ≤ b) (v : Value) : Below B w (w'.setCell ⟨b,o,none⟩ v):=Below.setCell (p:=⟨b,o,none⟩) h hb v
theorem run_takeD {P : Program} {W : World} {D : Nat} (h : W.heap[D]? = some (.deferred (some []))) : (Instr.takeDeferred D).run P W = .ok [] (W.putObj D (.deferred none)):=by
 simp [Instr.takeDeferred,getObj,setObj,Sem.run_bind,Sem.run,h,Result.andThen,World.putObj]
theorem leave_mark {P : Program} {fn : Func} {tmps : Array Value} {R : Ending → World → Prop} {D : Nat} {W : World} {v : Value} (h : W.heap[D]? = some (.deferred (some [])))
 (hr : (results fn tmps).run P (W.putObj D (.deferred none)) = .ok v (W.putObj D (.deferred none))) (hR : R (.returned v) (W.putObj D (.deferred none))) :
 LeavesInM FW 0 P fn tmps R [{ target:=.collected D,args:=#[] }] .returning W :=
 ⟨by simp,.inl ⟨D,_,rfl,run_takeD h,v,hr,hR⟩⟩
theorem Kcc {P : Program} {f : FuncId} {fn : Func} {c : Code} {args : Array Value} {w : World} {R : Ending → World → Prop}
 (hf : P.funcs[f]? = some fn) (hb : fn.body = some c)
 (h : c.wp P (bodyPostM FW 0 P fn R) { tmps:=args ++ Array.replicate (fn.ntmps - args.size) undef,defers:=[] } w) : Calls P f args w R :=
 (callsIn_wide (n:=0)).1 (callsIn_of_wp_marks hf hb trivial ((wpIn_wide (n:=0)).2 h))
open Go.RowKit
section
variable {P : Program} {ops : Array Oper} {Q : Exit → Act → World → Prop} {a : Act} {w : World} {l : Nat}
theorem callsIn_round {f : FuncId} {args : Array Value} {R : Ending → World → Prop} (h : Calls P f args w R) : CallsIn (FR l) 0 P f args w R:=CallsIn.inRound l ((callsIn_wide (n:=0)).2 h)
theorem operIn_of_oper {o : Oper} {K : Act → World → Prop} (hd : ∀ c,o.op ≠ .defer c) (h : o.wp P a w K Q) : o.wpIn (FR l) 0 P a w K Q:=by
 refine ⟨fun _ _=>trivial,?_⟩
 rw [Oper.semAt_eq _ _ _ hd]
 unfold Oper.wp at h
 generalize (execOp a.eval o).run P w = r at *
 cases r with
 | ok n w' =>
   cases n <;> simp only [Oper.upon] at h <;> simp only [Oper.uponIn]
   case value=>exact h
   case skip=>exact h
   case defer=>exact h
   case enter f args=>exact ⟨fun h=>by simp [Fence.wide,Fence.inRound] at h,callsIn_round h⟩
   case row row args =>
    refine ⟨fun h=>by simp [Fence.wide,Fence.inRound] at h,fun c cs _=>?_⟩
    obtain ⟨v,w'',hr,hs⟩:=h c cs
    exact ⟨v,w'',hr,stepsIn_wide.2 hs⟩
 | halt x w'=>cases x <;> simp only [Oper.upon] at h <;> first | exact h.elim | (simp only [Oper.uponIn];exact h)
theorem Kb7 (hq : ∀ a w,¬ Q .outgrown a w) : ∀ (os : List Oper) (a : Act) (w : World),(∀ o ∈ os,∀ c,o.op ≠ .defer c) → wpList P ops Q os a w → wpListIn (FR l) 0 P ops Q os a w
 | [],_,_,_,h=>h
 | o :: os,a,w,hd,h=>by
   unfold wpList at h
   unfold wpListIn
   split at h
   ·rename_i hw
    rw [if_pos hw]
    rcases h with h | ⟨_,b,w',h⟩
    ·exact operIn_of_oper (hd o (by simp)) (Oper.wp_mono (fun a w h=>Kb7 hq os a w (fun o' h'=>hd o' (by simp [h'])) h) h)
    ·exact absurd h (hq _ _)
   ·rename_i hw
    rw [if_neg hw]
    exact ⟨fun _ _=>trivial,Kb7 hq os _ w (fun o' h'=>hd o' (by simp [h'])) h⟩
def noDefer (ops : Array Oper) : Bool:=ops.toList.all fun o=>match o.op with | .defer _=>false | _=>true
theorem noDefer_spec (h : noDefer ops = true) : ∀ o ∈ ops.toList,∀ c,o.op ≠ .defer c:=fun o ho c e=>by
 have:=List.all_eq_true.1 h o ho
 rw [e] at this;cases this
def Only (K : Act → World → Prop) : Exit → Act → World → Prop
 | .normal,a,w=>K a w
 | _,_,_=>False
theorem Kaq {id : Nat} {os : List Oper} (hd : noDefer os.toArray = true) (h : wpList P os.toArray (Only (Q .normal)) os a w) : (Code.region id os.toArray false).wpIn (FR l) 0 P Q a w:=by
 refine wpIn_region_lit (wpListIn_mono ?_ (Kb7 (Q:=Only (Q .normal)) (fun _ _ h=>h) os a w (by simpa using noDefer_spec hd) h))
 intro e a w h;cases e <;> first | exact h | exact h.elim
where
 wpListIn_mono {F : Fence} {n : Nat} {Q Q' : Exit → Act → World → Prop} {ops : Array Oper} {os : List Oper} {a : Act} {w : World} (hq : ∀ e a w,Q e a w → Q' e a w) (h : wpListIn F n P ops Q os a w) : wpListIn F n P ops Q' os a w:=by
  induction os generalizing a w with
  | nil=>exact hq _ _ _ h
  | cons o os ih =>
    unfold wpListIn at h ⊢
    split at h
    ·rename_i hw;rw [if_pos hw];exact operIn_mono hq (fun a w h=>ih h) h
    ·rename_i hw;rw [if_neg hw];exact ⟨h.1,ih h.2⟩
 operIn_mono {F : Fence} {n : Nat} {Q Q' : Exit → Act → World → Prop} {o : Oper} {a : Act} {w : World} {K K' : Act → World → Prop} (hq : ∀ e a w,Q e a w → Q' e a w) (hk : ∀ a w,K a w → K' a w) (h : o.wpIn F n P a w K Q) : o.wpIn F n P a w K' Q':=by
  refine ⟨h.1,?_⟩
  have h2:=h.2
  have out : LetsOut Q → LetsOut Q':=fun ⟨a,w,h⟩=>⟨a,w,hq _ _ _ h⟩
  generalize (o.semAt F.round a.eval).run P w = r at *
  cases r with
  | ok n w' =>
    cases n <;> simp only [Oper.uponIn] at h2 ⊢
    case value=>exact hk _ _ h2
    case skip=>exact hk _ _ h2
    case defer=>exact hk _ _ h2
    case enter f args=>exact ⟨h2.1,h2.2.1,fun cs hr=>let ⟨e,w',fr,h,rest⟩:=h2.2.2 cs hr;⟨e,w',fr,(by cases e <;> first | exact hk _ _ h | exact hq _ _ _ h | exact out h),rest⟩⟩
    case row row args=>exact ⟨h2.1,h2.2.mono fun _ _ h=>hk _ _ h⟩
    case round=>exact ⟨h2.1,h2.2.mono fun e _ h=>by cases e <;> first | exact hk _ _ h | exact hq _ _ _ h | exact out h⟩
  | halt x w'=>cases x <;> simp only [Oper.uponIn] at h2 ⊢ <;> first | exact hq _ _ _ h2 | exact h2
def afters (ops : Array Oper) (k : Nat) : List Nat:=match ops[k]? with
 | some o=>(o.after.toList.filter fun e=>Region.binds .any e).map (·.on)
 | none=>[]
def marks (ops : Array Oper) : Nat → List Nat → List Nat
 | 0,s=>s
 | k + 1,s=>marks ops k (if s.contains k then s ++ afters ops k else s)
def lastly (ops : Array Oper) (j : Nat) : Bool :=
 (List.range ops.size).all fun i=>i == j || (marks ops ops.size (afters ops j)).contains i
def Closed (ops : Array Oper) (listed : Array Bool) : Prop:=∀ k,listed.getD k false = true → ∀ i ∈ afters ops k,listed.getD i false = true
theorem marks_listed {listed : Array Bool} (hc : Closed ops listed) : ∀ (k : Nat) (s : List Nat),(∀ i ∈ s,listed.getD i false = true) → ∀ i ∈ marks ops k s,listed.getD i false = true
 | 0,_,h=>h
 | k + 1,s,h=>by
   unfold marks
   refine marks_listed hc k _ ?_
   split
   ·rename_i hk
    intro i hi
    rcases List.mem_append.1 hi with hi | hi
    ·exact h i hi
    ·exact hc k (h k (by simpa using hk)) i hi
   ·exact h
theorem afters_listed {listed : Array Bool} {j : Nat} (hj : j ∈ Region.ready .any ops listed) : ∀ i ∈ afters ops j,listed.getD i false = true:=by
 obtain ⟨_,o,ho,hall⟩:=mem_ready.1 hj
 intro i hi
 unfold afters at hi
 rw [ho] at hi
 obtain ⟨e,he,rfl⟩:=List.mem_map.1 hi
 obtain ⟨he1,he2⟩:=List.mem_filter.1 he
 exact hall e (Array.mem_toList_iff.1 he1) he2
theorem Closed.set {listed : Array Bool} {j : Nat} (hc : Closed ops listed) (hj : j ∈ Region.ready .any ops listed) : Closed ops (listed.setIfInBounds j true):=by
 intro k hk i hi
 rcases Nat.decEq k j with h | h
 ·rw [getD_set_ne false (Ne.symm h)] at hk
  exact getD_set_true (hc k hk i hi)
 ·subst h
  exact getD_set_true (afters_listed hj i hi)
theorem closed_none (n : Nat) : Closed ops (Array.replicate n false):=by
 intro k hk
 exfalso
 rcases Nat.lt_or_ge k n with h | h
 ·simp [h] at hk
 ·simp [h] at hk
def outs (ops : Array Oper) (Q : Exit → Act → World → Prop) (i : Nat) : Exit → Act → World → Prop:=if lastly ops i = true then Q else Only (Q .normal)
def wpE (P : Program) (ops : Array Oper) (Q : Exit → Act → World → Prop) (S : World → Prop) : Nat → Array Bool → Act → World → Prop
 | 0,listed,a,w=>Closed ops listed → Region.ready .any ops listed = [] ∧ Q .normal a w
 | fuel + 1,listed,a,w=>Closed ops listed → (Region.ready .any ops listed = [] → Q .normal a w) ∧
   ∀ i ∈ Region.ready .any ops listed,wpOp P ops (outs ops Q i) i (fun a' w'=>(lastly ops i = true ∨ S w') ∧ wpE P ops Q S fuel (listed.setIfInBounds i true) a' w') a w
theorem oper_out {Q Q' : Exit → Act → World → Prop} {o : Oper} {N : Act → World → Prop} (hq : ∀ e a w,Q e a w → Q' e a w) (h : o.wp P a w N Q) : o.wp P a w N Q':=by
 have out : LetsOut Q → LetsOut Q':=fun ⟨a,w,h⟩=>⟨a,w,hq _ _ _ h⟩
 unfold Oper.wp at *
 generalize (execOp a.eval o).run P w = r at *
 cases r with
 | ok n w' =>
   cases n <;> simp only [Oper.upon] at h ⊢
   case value=>exact h
   case skip=>exact h
   case defer=>exact h
   case enter f args=>exact h.mono fun e w' h=>by cases e <;> first | exact h | exact hq _ _ _ h | exact out h
   case row row args=>exact h
 | halt x w'=>cases x <;> simp only [Oper.upon] at h ⊢ <;> first | exact hq _ _ _ h | exact h
theorem outs_le (Q : Exit → Act → World → Prop) (i : Nat) : ∀ e a w,outs ops Q i e a w → Q e a w:=by
 intro e a w h
 unfold outs at h
 split at h
 ·exact h
 ·cases e <;> first | exact h | exact h.elim
theorem wpOp_out {Q Q' : Exit → Act → World → Prop} {i : Nat} {N : Act → World → Prop} (hq : ∀ e a w,Q e a w → Q' e a w) (h : wpOp P ops Q i N a w) : wpOp P ops Q' i N a w:=by
 unfold wpOp at *
 split
 ·rename_i ho;simpa only [ho] using h
 ·rename_i o ho
  simp only [ho] at h
  split at h
  ·rename_i hw
   rw [if_pos hw]
   rcases h with h | ⟨h1,a',w',h2⟩
   ·exact .inl (oper_out hq h)
   ·exact .inr ⟨h1,a',w',hq _ _ _ h2⟩
  ·rename_i hw
   rw [if_neg hw];exact h
theorem wpAny_of_wpE {Q : Exit → Act → World → Prop} {S : World → Prop} : ∀ (fuel : Nat) (listed : Array Bool) (a : Act) (w : World),Closed ops listed → wpE P ops Q S fuel listed a w → wpAny P .any ops Q fuel listed a w
 | 0,_,_,_,hc,h=>h hc
 | fuel + 1,_,_,_,hc,h=>⟨(h hc).1,fun i hi=>wpOp_mono (fun a' w' h'=>wpAny_of_wpE fuel _ a' w' (hc.set hi) h'.2) (wpOp_out (outs_le Q i) ((h hc).2 i hi))⟩
theorem Kah {id : Nat} (S : World → Prop) (hm : P.follows .mixedOrders = true) (hS : S w.drew)
 (h : S w.drew → wpE P ops (Only (Q .normal)) S ops.size (Array.replicate ops.size false) a w.drew) : (Code.region id ops true).wp P Q a w:=by
 have h2:=wp_region_any (id:=id) hm (wpAny_of_wpE _ _ _ _ (closed_none _) (h hS))
 exact Code.wp_mono (fun e a w h=>by cases e <;> first | exact h | exact h.elim) h2
variable {S : World → Prop} {fuel : Nat} {listed : Array Bool} {K : Exit → Act → World → Prop}
theorem listed_no {i : Nat} {listed : Array Bool} (h : listed.getD i true = false) : listed.getD i false ≠ true:=by
 rcases Nat.lt_or_ge i listed.size with h' | h'
 ·simp [h'] at h ⊢;exact h
 ·simp [Array.getElem?_eq_none h']
theorem not_lastly {i j : Nat} (hc : Closed ops listed) (hi : i ∈ Region.ready .any ops listed) (hj : j ∈ Region.ready .any ops listed) (hne : j ≠ i) : lastly ops j = true → False:=by
 intro hl
 obtain ⟨hi0,oi,hoi,_⟩:=mem_ready.1 hi
 have hlt : i < ops.size:=(Array.getElem?_eq_some_iff.1 hoi).1
 have h1:=List.all_eq_true.1 hl i (List.mem_range.2 hlt)
 simp only [Bool.or_eq_true,beq_iff_eq] at h1
 rcases h1 with h1 | h1
 ·exact hne h1.symm
 ·exact listed_no hi0 (marks_listed hc _ _ (afters_listed hj) i (by simpa using h1))
theorem wpE_first {i : Nat} {oi : Oper} {v : Value} (hi : ops[i]? = some oi) (hsel : ∀ (j : Nat) (o : Oper) cs b,ops[j]? = some o → o.op ≠ .select cs b) :
 ∀ (fuel : Nat) (listed : Array Bool) (a : Act) (w : World),
  (∀ j oj,ops[j]? = some oj → j ≠ i → listed.getD j true = false → (∀ e ∈ oj.after,Region.binds .any e = true → e.on ≠ i) → oi.apart ops oj = true) →
  i ∈ Region.ready .any ops listed → YieldsIf P ops S oi v a → S w →
  wpE P ops K S fuel (listed.setIfInBounds i true) (a.put oi.dst v) w → wpE P ops K S (fuel + 1) listed a w:=by
 intro fuel
 induction fuel with
 | zero =>
   intro listed a w _ hr hy hS H hc
   refine ⟨fun h=>absurd hr (by rw [h];simp),fun j hj=>?_⟩
   rcases Nat.decEq j i with hji | hji
   ·exact absurd (ready_mono hj hji) (by rw [(H (hc.set hr)).1];simp)
   ·subst hji;exact hy.wpOp hi hS ⟨.inr hS,H⟩
 | succ fuel ih =>
   intro listed a w hfree hr hy hS H hc
   refine ⟨fun h=>absurd hr (by rw [h];simp),fun j hj=>?_⟩
   rcases Nat.decEq j i with hji | hji
   ·have hrj:=(H (hc.set hr)).2 j (ready_mono hj hji)
    obtain ⟨hj0,oj,hoj,hall⟩:=mem_ready.1 hj
    have hi0:=(mem_ready.1 hr).1
    have hfar : ∀ e ∈ oj.after,Region.binds .any e = true → e.on ≠ i:=fun e he hb heq=>listed_no hi0 (heq ▸ hall e he hb)
    have houts : outs ops K j = Only (K .normal):=if_neg (fun h=>not_lastly hc hr hj hji h)
    rw [houts] at hrj ⊢
    have hswap:=wpOp_putIf hoj (hfree j oj hoj hji hj0 hfar) (fun cs b=>hsel i oi cs b hi) (fun cs b=>hsel j oj cs b hoj) (fun _ _ _ h=>h) hy hrj
    refine wpOp_mono (fun a' w' h3=>?_) hswap
    have hS' : S w':=h3.2.1.resolve_left (not_lastly hc hr hj hji)
    refine ⟨.inr hS',ih _ a' w' (fun k ok hk hki hun hno=>hfree k ok hk hki ?_ hno) (ready_mono hr (Ne.symm hji)) h3.1 hS' ?_⟩
    ·rcases Nat.decEq j k with hjk | hjk
     ·rw [getD_set_ne true hjk] at hun;exact hun
     ·exact hjk ▸ hj0
    ·rw [Array.setIfInBounds_comm _ _ hji];exact h3.2.2
   ·subst hji;exact hy.wpOp hi hS ⟨.inr hS,H⟩
theorem take (i d : Nat) {oi : Oper} {v : Value} (hi : ops[i]? = some oi) (hdst : oi.dst = some d) (hs : Region.noSelect ops = true) (hf : Region.free .any ops listed i = true) (hr : (Region.ready .any ops listed).contains i = true)
 (hw : Region.wanted oi (yielded ops a.tmps) = true) (hy : ∀ w,S w → (execOp a.eval oi).run P w = .ok (.value v) w) (hS : S w)
 (h : wpE P ops K S fuel (listed.setIfInBounds i true) (a.put (some d) v) w) : wpE P ops K S (fuel + 1) listed a w :=
 have h:=hdst ▸ h
 wpE_first hi (Region.noSelect_spec hs) fuel listed a w (Region.free_spec hi hf) (by simpa using hr) (.inl ⟨hw,hy⟩) hS h
theorem takeNot (i d : Nat) {oi : Oper} (hi : ops[i]? = some oi) (hdst : oi.dst = some d) (hs : Region.noSelect ops = true) (hf : Region.free .any ops listed i = true) (hr : (Region.ready .any ops listed).contains i = true)
 (hw : Region.wanted oi (yielded ops a.tmps) = false) (hS : S w)
 (h : wpE P ops K S fuel (listed.setIfInBounds i true) (a.put (some d) undef) w) : wpE P ops K S (fuel + 1) listed a w :=
 have h:=hdst ▸ h
 wpE_first hi (Region.noSelect_spec hs) fuel listed a w (Region.free_spec hi hf) (by simpa using hr) (.inr ⟨hw,rfl⟩) hS h
theorem sA {α : Type} (l : List α) (i : Nat) (a : α) : l.toArray.setIfInBounds i a = (l.set i a).toArray:=List.setIfInBounds_toArray ..
theorem sZ {α : Type} (a b : α) (l : List α) : (a :: l).set 0 b = b :: l:=rfl
theorem sS {α : Type} (a b : α) (n : Nat) (l : List α) : (a :: l).set (n + 1) b = a :: l.set n b:=rfl
theorem tk (i d : Nat) {oi : Oper} {v : Value} (hi : ops[i]? = some oi) (hdst : oi.dst = some d) (hy : ∀ w,S w → (execOp a.eval oi).run P w = .ok (.value v) w) (h : wpE P ops K S fuel (listed.setIfInBounds i true) (a.put (some d) v) w)
 (hs : Region.noSelect ops = true:=by kernel_rfl) (hf : Region.free .any ops listed i = true:=by kernel_rfl) (hr : (Region.ready .any ops listed).contains i = true:=by kernel_rfl) (hw : Region.wanted oi (yielded ops a.tmps) = true:=by rfl) (hS : S w:=by assumption) : wpE P ops K S (fuel + 1) listed a w :=
 take i d hi hdst hs hf hr hw hy hS h
theorem tn (i d : Nat) {oi : Oper} (hi : ops[i]? = some oi) (hdst : oi.dst = some d) (h : wpE P ops K S fuel (listed.setIfInBounds i true) (a.put (some d) undef) w)
 (hs : Region.noSelect ops = true:=by kernel_rfl) (hf : Region.free .any ops listed i = true:=by kernel_rfl) (hr : (Region.ready .any ops listed).contains i = true:=by kernel_rfl) (hw : Region.wanted oi (yielded ops a.tmps) = false:=by rfl) (hS : S w:=by assumption) : wpE P ops K S (fuel + 1) listed a w :=
 takeNot i d hi hdst hs hf hr hw hS h
theorem zP : (∀ (t : Array Value) (e : List Deferred) (i : Tmp) (v : Value),(Act.mk t e).put (some i) v = ⟨t.setIfInBounds i v,e⟩) ∧ (∀ (l : List Value) (i : Nat) (a : Value),l.toArray.setIfInBounds i a = (l.set i a).toArray) ∧ (∀ (a b : Value) (l : List Value),(a :: l).set 0 b = b :: l) ∧ (∀ (a b : Value) (n : Nat) (l : List Value),(a :: l).set (n + 1) b = a :: l.set n b):=⟨fun _ _ _ _=>rfl,fun _ _ _=>sA _ _ _,fun _ _ _=>rfl,fun _ _ _ _=>rfl⟩
theorem tx (i d : Nat) {oi : Oper} (h : wpE P ops K S fuel (listed.setIfInBounds i true) (a.put (some d) undef) w) (hi : ops[i]? = some oi:=by rfl) (hdst : oi.dst = some d:=by rfl)
 (hs : Region.noSelect ops = true:=by kernel_rfl) (hf : Region.free .any ops listed i = true:=by kernel_rfl) (hr : (Region.ready .any ops listed).contains i = true:=by kernel_rfl) (hw : Region.wanted oi (yielded ops a.tmps) = false:=by rfl) (hS : S w:=by assumption) : wpE P ops K S (fuel + 1) listed a w :=
 takeNot i d hi hdst hs hf hr hw hS h
theorem only (i : Nat) {oi : Oper} (hi : ops[i]? = some oi) (hr : Region.ready .any ops listed = [i]) (hw : Region.wanted oi (yielded ops a.tmps) = true)
 (h : oi.wp P a w (fun a' w'=>(lastly ops i = true ∨ S w') ∧ wpE P ops K S fuel (listed.setIfInBounds i true) a' w') (outs ops K i)) : wpE P ops K S (fuel + 1) listed a w:=by
 intro _
 refine ⟨fun h=>(by rw [h] at hr;cases hr),fun j hj=>?_⟩
 rw [hr] at hj
 obtain rfl : j = i:=by simpa using hj
 unfold wpOp
 simp only [hi,hw,if_true]
 exact .inl h
theorem Kc4 (i d : Nat) {oi : Oper} {v : Value} {w' : World} (hi : ops[i]? = some oi) (hdst : oi.dst = some d) (hr : Region.ready .any ops listed = [i]) (hw : Region.wanted oi (yielded ops a.tmps) = true)
 (hx : (execOp a.eval oi).run P w = .ok (.value v) w') (hS : lastly ops i = true ∨ S w') (h : wpE P ops K S fuel (listed.setIfInBounds i true) (a.put (some d) v) w') : wpE P ops K S (fuel + 1) listed a w :=
 only i hi hr hw (by unfold Oper.wp;rw [hx];exact ⟨hS,hdst ▸ h⟩)
theorem Kcl (i : Nat) {oi : Oper} {w' : World} (hi : ops[i]? = some oi) (hdst : oi.dst = none) (hr : Region.ready .any ops listed = [i]) (hw : Region.wanted oi (yielded ops a.tmps) = true)
 (hx : (execOp a.eval oi).run P w = .ok .skip w') (hS : lastly ops i = true ∨ S w') (h : wpE P ops K S fuel (listed.setIfInBounds i true) a w') : wpE P ops K S (fuel + 1) listed a w :=
 only i hi hr hw (by unfold Oper.wp;rw [hx];refine ⟨hS,?_⟩;rw [hdst];exact h)
theorem done {K : Act → World → Prop} (hr : Region.ready .any ops listed = []) (h : K a w) : ∀ fuel,wpE P ops (Only K) S fuel listed a w
 | 0=>fun _=>⟨hr,h⟩
 | _ + 1=>fun _=>⟨fun _=>h,by rw [hr];simp⟩
end
section
variable {P : Program} {a : Act} {w w' : World} {o : Oper} {v : Value}
theorem Kab {s : TypeId} {x : Operand} {k : Nat} {u : Value} (ho : o.op = .fieldAddr s x k) (hx : a.eval x = u) (hr : (Instr.fieldAt s u k).run P w = .ok v w') : (execOp a.eval o).run P w = .ok (.value v) w':=by
 unfold execOp;rw [ho];simp only [hx,Sem.run_bind,hr,Result.andThen_ok,Sem.run_pure]
theorem Kbz {t : TypeId} {x y : Operand} {m k : Value} {ok : Bool} (ho : o.op = .lookup t x y ok) (hx : a.eval x = m) (hy : a.eval y = k) (hr : (Instr.lookup t m k ok).run P w = .ok v w') : (execOp a.eval o).run P w = .ok (.value v) w':=by
 unfold execOp;rw [ho];simp only [hx,hy,Sem.run_bind,hr,Result.andThen_ok,Sem.run_pure]
theorem exec_buildSlice {t : TypeId} {n : Nat} {ps : Array (Nat × Operand)} {vs : Array (Nat × Value)} (ho : o.op = .buildSlice t n ps) (hp : ps.map (fun p=>(p.1,a.eval p.2)) = vs) (hr : (Instr.buildSlice t n vs).run P w = .ok v w') :
 (execOp a.eval o).run P w = .ok (.value v) w':=by
 unfold execOp;rw [ho];simp only [hp,Sem.run_bind,hr,Result.andThen_ok,Sem.run_pure]
theorem Kbf {t : TypeId} {n i : Nat} {x : Operand} {u : Value} (ho : o.op = .buildSlice t n #[(i,x)]) (hx : a.eval x = u) (hr : (Instr.buildSlice t n #[(i,u)]).run P w = .ok v w') :
 (execOp a.eval o).run P w = .ok (.value v) w':=exec_buildSlice ho (by simp [hx]) hr
theorem Kcb {x y : Operand} {t u : TypeId} {vx vy : Value} (ho : o.op = .call { callee:=.builtin .append,args:=#[x,y],argTypes:=#[t,u] }) (hx : a.eval x = vx) (hy : a.eval y = vy)
 (hr : (Builtin.append_ #[t,u] o.type #[vx,vy]).run P w = .ok v w') : (execOp a.eval o).run P w = .ok (.value v) w':=by
 unfold execOp
 simp only [ho,resolve,invoke,builtin,Sem.run_bind,Sem.run_pure,Result.andThen_ok,List.map_toArray,List.map_cons,List.map_nil,hx,hy,hr]
theorem wpList_append {ops : Array Oper} {rest : List Oper} {Q : Exit → Act → World → Prop} {x y : Operand} {t u : TypeId} {vx vy : Value} (hg : o.guard = none) (ho : o.op = .call { callee:=.builtin .append,args:=#[x,y],argTypes:=#[t,u] }) (hx : a.eval x = vx) (hy : a.eval y = vy)
 (hr : (Builtin.append_ #[t,u] o.type #[vx,vy]).run P w = .ok v w') (h : wpList P ops Q rest (a.put o.dst v) w') : wpList P ops Q (o :: rest) a w:=Kb4 hg (Kcb ho hx hy hr) h
theorem Kbn {t : TypeId} {x y z : Operand} {m k u : Value} (ho : o.op = .mapUpdate t x y z) (hx : a.eval x = m) (hy : a.eval y = k) (hz : a.eval z = u) (hr : (Instr.mapUpdate t m k u).run P w = .ok () w') :
 (execOp a.eval o).run P w = .ok .skip w':=by
 unfold execOp;rw [ho];simp only [hx,hy,hz,Sem.run_bind,hr,Result.andThen_ok,Sem.run_pure]
theorem Kag {ty : TypeId} {d : TypeDesc} {ad : Addr} (hu : P.underlying ty = some d) (hd : (match d with | .struct _ | .array _ _=>true | _=>false) = false) (hc : w.cell? ad = some v) : (loadVar ty ad).run P w = .ok v w:=by
 have h : (isAgg ty).run P w = .ok false w:=by
  unfold isAgg
  simp only [Sem.run_bind,run_underlying hu,Result.andThen_ok]
  cases d <;> first | rfl | cases hd
 unfold loadVar
 simp only [Sem.run_bind,h,Result.andThen_ok]
 simp [load,Sem.run,hc]
end
theorem Kaw (w : World) (o : Obj) (k : Nat) : (w.alloc o).heap[k]? = if k = w.heap.size then some o else w.heap[k]?:=by
 show (w.heap.push o)[k]? = _
 rw [Array.getElem?_push]
theorem Kb3 {w w' : World} {base : Nat} {e : TypeId} {size : Nat} {v : Value} {n : Nat} {xs : List Value} (h : w.ownsRow base e size v n xs) (hb : ∀ g,v.ownBlock = some g → w'.heap[g]? = w.heap[g]?) :
 w'.ownsRow base e size v n xs:=by
 refine ⟨h.1,?_⟩
 rcases h.2 with hn | ⟨g,cap,cur,rfl,h1,h2,rest⟩
 ·exact .inl hn
 ·exact .inr ⟨g,cap,cur,rfl,h1,(hb g rfl).trans h2,rest⟩
theorem Kac {w : World} {b o : Nat} {cs : Array Value} {t : TypeId} {fr : Nat × Nat} {v : Value} (h : w.heap[b]? = some (.cells cs t fr)) (hv : cs[o]? = some v) : w.cell? ⟨b,o,none⟩ = some v:=by
 rw [cell_of_row w b o cs t fr h];exact hv
theorem Kbe {w : World} {b o : Nat} {cs : Array Value} {t : TypeId} (h : w.heap[b]? = some (.cells cs t (0,0))) : w.frozen? ⟨b,o,none⟩ = false:=frozen_of_row w b o cs t h
section
variable {P : Program} {w w' : World} {a : Act} {o : Oper} {v : Value} {ops : Array Oper} {K : Exit → Act → World → Prop} {S : World → Prop} {fuel : Nat} {listed : Array Bool}
theorem Kar {f : FuncId} {fn : Func} {xs : List Operand} {ts : Array TypeId} (vs : List Value) (ho : o.op = .call { callee:=.value (.func f),args:=xs.toArray,argTypes:=ts }) (hx : xs.map a.eval = vs)
 (hfn : P.funcs[f]? = some fn) (hb : fn.body.isSome = true) (hn : (fn.name == "runtime.NumGoroutine") = false) : (execOp a.eval o).run P w = .ok (.enter f vs.toArray) w := by
 have hy : a.eval (.func f) = .func (.func f) #[] #[]:=rfl
 have hc:=Kb2 hfn hb hn vs.toArray w
 unfold execOp
 simp only [ho,resolve,hy,List.map_toArray,hx,Deferred.ofValue,Sem.run_bind,Sem.run_pure,Result.andThen_ok,invoke,Array.empty_append,Array.append_empty]
 exact hc
theorem Kay (i d : Nat) {oi : Oper} {f : FuncId} {vs : Array Value} (hi : ops[i]? = some oi) (hdst : oi.dst = some d) (hr : Region.ready .any ops listed = [i]) (hw : Region.wanted oi (yielded ops a.tmps) = true)
 (hx : (execOp a.eval oi).run P w = .ok (.enter f vs) w)
 (h : Calls P f vs w fun e w'=>∃ v,e = .returned v ∧ (lastly ops i = true ∨ S w') ∧ wpE P ops K S fuel (listed.setIfInBounds i true) (a.put (some d) v) w') : wpE P ops K S (fuel + 1) listed a w :=
 only i hi hr hw (by unfold Oper.wp;rw [hx,Oper.upon_enter];refine h.mono ?_;rintro e w' ⟨v,rfl,hS,hk⟩;exact ⟨hS,hdst ▸ hk⟩)
end
section
variable {P : Program} {a : Act} {w w' : World} {o : Oper} {v : Value}
theorem exec_move {x : Operand} (ho : o.op = .move x) (hx : a.eval x = v) : (execOp a.eval o).run P w = .ok (.value v) w:=by
 unfold execOp;rw [ho];simp only [hx,Sem.run_pure]
end
section
variable {P : Program} {ops : Array Oper} {a : Act} {w : World} {S : World → Prop} {fuel : Nat} {listed : Array Bool} {K : Exit → Act → World → Prop} {o : Oper}
theorem Kdi (i d : Nat) {oi : Oper} (hi : ops[i]? = some oi) (hdst : oi.dst = some d) (hr : Region.ready .any ops listed = [i]) (hw : Region.wanted oi (yielded ops a.tmps) = false)
 (h : wpE P ops K S fuel (listed.setIfInBounds i true) (a.put (some d) undef) w) (hS : lastly ops i = true ∨ S w) : wpE P ops K S (fuel + 1) listed a w:=by
 intro _
 refine ⟨fun h=>(by rw [h] at hr;cases hr),fun j hj=>?_⟩
 rw [hr] at hj
 obtain rfl : j = i:=by simpa using hj
 unfold wpOp
 simp only [hi,hw]
 exact ⟨hS,hdst ▸ h⟩
theorem Kan {op : BinOp} {t t' : TypeId} {x y : Operand} {n m : Int} {v : Value} (ho : o.op = .binOp op t x y t') (hx : a.eval x = .int .i64 n) (hy : a.eval y = .int .i64 m)
 (hr : (binOp op t (.int .i64 n) (.int .i64 m)).run P w = .ok v w) : (execOp a.eval o).run P w = .ok (.value v) w:=by
 unfold execOp;rw [ho];simp only [hx,hy]
 have e : eqGuard op t x y (.int .i64 n) (.int .i64 m) = pure ():=by unfold eqGuard;cases op <;> rfl
 simp only [e,Sem.run_bind,Sem.run_pure,Result.andThen_ok,hr]
theorem Kcj {op : BinOp} {t t' : TypeId} {x y : Operand} {n m : ByteArray} {v : Value} (ho : o.op = .binOp op t x y t') (hx : a.eval x = .string n) (hy : a.eval y = .string m)
 (hr : (binOp op t (.string n) (.string m)).run P w = .ok v w) : (execOp a.eval o).run P w = .ok (.value v) w:=by
 unfold execOp;rw [ho];simp only [hx,hy]
 have e : eqGuard op t x y (.string n) (.string m) = pure ():=by unfold eqGuard;cases op <;> rfl
 simp only [e,Sem.run_bind,Sem.run_pure,Result.andThen_ok,hr]
theorem exec_convert {s t : TypeId} {x : Operand} {vx v : Value} {w' : World} (ho : o.op = .convert s t x) (hx : a.eval x = vx) (hr : (convert s t vx).run P w = .ok v w') : (execOp a.eval o).run P w = .ok (.value v) w':=by
 unfold execOp;rw [ho];simp only [hx,Sem.run_bind,hr,Result.andThen_ok,Sem.run_pure]
end
section
variable {P : Program} {w w' : World} {a : Act} {o : Oper} {v : Value}
theorem Kat {x : Operand} (ho : o.op = .assign x) (hx : a.eval x = v) : (execOp a.eval o).run P w = .ok (.value v) w:=by
 unfold execOp;rw [ho];simp only [hx,Sem.run_pure]
end
theorem Ka5 {P : Program} {a : Act} {w : World} {o : Oper} {t : TypeId} {x : Operand} {b : Bool} (ho : o.op = .unOp .not t x) (hx : a.eval x = .bool b) : (execOp a.eval o).run P w = .ok (.value (.bool (!b))) w:=by
 unfold execOp;rw [ho];simp [hx,Op.unary]
theorem Kaj {P : Program} {a : Act} {w w' : World} {o : Oper} {t : TypeId} {x y : Operand} {vx vy v : Value} (ho : o.op = .indexAddr t x y) (hx : a.eval x = vx) (hy : a.eval y = vy) (hr : (Instr.indexAt t vx vy).run P w = .ok v w') :
 (execOp a.eval o).run P w = .ok (.value v) w':=by
 unfold execOp;rw [ho];simp only [hx,hy,Sem.run_bind,hr,Result.andThen_ok,Sem.run_pure]
def strB (l : List UInt8) : ByteArray:=⟨l.toArray⟩
theorem strB_inj {l m : List UInt8} : strB l = strB m ↔ l = m:=by
 constructor
 ·intro h;have:=congrArg (fun b=>b.data.toList) h;simpa [strB] using this
 ·rintro rfl;rfl
theorem Kas (l : List UInt8) : (strB l).toList = l:=by rw [ByteArray.toList_eq];rfl
theorem strB_size (a : List UInt8) : (strB a).size = a.length:=rfl
section
variable {P : Program} {w : World}
theorem Kco (t ty e : TypeId) (i : TypeInfo) (z : Value) (size bytes : Nat) (ht : P.underlying t = some (.slice e)) (hi : P.info? e = some i) (hz : i.zero = some z)
 (hsize : i.size = size) (hby : i.bytes = bytes) (hzs : z.cells.size = size)
 (v : Value) (n : Nat) (xs : List Value) (hown : w.ownsRow 0 e size v n xs)
 (a : Addr) (m c : Nat) (news : List Value) (hl : news.length = m * size) (hnews : ∀ j u,news[j]? = some u → w.cell? (a.add j) = some u) (h1 : ∀ u ∈ news,u.oneCell' = true)
 (h63 : n + m ≤ maxLen) (hbytes : (n + m) * bytes ≤ 140737488355328) :
 ∃ v' w',(Builtin.append_ #[t,t] ty #[v,.slice (some a) m c]).run P w = .ok v' w' ∧ w'.ownsRow 0 e size v' (n + m) (xs ++ news) ∧ Touch (fun b=>v.ownBlock = some b) w w' ∧
  (v'.ownBlock = v.ownBlock ∨ v'.ownBlock = some w.heap.size) ∧ w.heap.size ≤ w'.heap.size:=by
 subst hsize
 subst hby
 have hsmall : n + m ≤ 9223372036854775807:=by simp only [maxLen] at h63;omega
 have hlen : (xs ++ news).length = (n + m) * i.size:=by rw [List.length_append,hown.1,hl,Nat.add_mul]
 have grown : ∀ (old : Nat),old < n + m → ∀ (S : Nat → Prop),
  (w.drew.alloc (.cells (xs.toArray ++ news.toArray ++ Builtin.zeroCells z.cells (grownCap w (n + m) old e - (n + m))) e)).ownsRow 0 e i.size
    (.slice (some ⟨w.heap.size,0,none⟩) (n + m) (grownCap w (n + m) old e)) (n + m) (xs ++ news) ∧
  Touch S w (w.drew.alloc (.cells (xs.toArray ++ news.toArray ++ Builtin.zeroCells z.cells (grownCap w (n + m) old e - (n + m))) e)):=by
  intro old ho S
  have hge:=grownCap_ge w (n + m) old e
  have hcm : grownCap w (n + m) old e ≤ maxLen:=grownCap_le_maxLen w (n + m) old e h63
  refine ⟨⟨hlen,.inr ⟨w.heap.size,_,_,rfl,Nat.zero_le _,heap_alloc_new w.drew _,hge,hcm,?_,?_⟩⟩,(Touch.refl S w).drew.alloc _⟩
  ·simp only [Array.size_append,List.size_toArray,size_zeroCells,hzs,hown.1,hl,← Nat.add_mul]
   congr 1
   omega
  ·simp only [Array.toList_append,List.append_assoc]
   rw [← List.append_assoc,← hlen]
   exact List.take_left
 rcases hown.2 with ⟨rfl,rfl⟩ | ⟨g,cap,cur,rfl,hbg,hg,hnc,hcm,hcs,htake⟩
 ·have hx : xs = []:=List.eq_nil_of_length_eq_zero (by simpa using hown.1)
  subst hx
  by_cases hm : m = 0
  ·subst hm
   have hn : news = []:=List.eq_nil_of_length_eq_zero (by simpa using hl)
   subst hn
   refine ⟨.slice none 0 0,w,?_,World.ownsRow_nil w 0 e i.size,Touch.refl _ _,.inl rfl,Nat.le_refl _⟩
   simp [Builtin.append_,run_underlying ht,sizeOf,typeInfo,hi,Builtin.lenOf,Builtin.firstCells,loadCells,loadCellsFrom]
  ·have hr:=run_append_nil (P:=P) w t ty e i z ht hi hz a m c news hl hnews (by omega) (by omega) (by have hb:=hbytes;simp only [Nat.zero_add] at hb;omega)
   have hgr:=grown 0 (by omega) (fun b=>Value.ownBlock (.slice none 0 0) = some b)
   simp only [Nat.zero_add,List.nil_append,Array.empty_append] at hgr ⊢
   exact ⟨_,_,hr,hgr.1,hgr.2,.inr rfl,hgr.2.size⟩
 ·by_cases hroom : n + m ≤ cap
  ·have hfit : n * i.size + news.length ≤ cur.size:=by rw [hl,hcs,← Nat.add_mul];exact Nat.mul_le_mul_right _ hroom
   have hr:=run_append_room (P:=P) w t ty e i ht hi g n cap cur hg a m c news hl hnews h1 hroom hfit
   refine ⟨_,_,hr,⟨hlen,.inr ⟨g,cap,_,rfl,hbg,setRow_heap w g cur _ e _ hg,hroom,hcm,?_,?_⟩⟩,⟨rfl,rfl,rfl,by simp,fun k _ hk=>setRow_other w g k _ (fun e=>hk (by simp [Value.ownBlock,e]))⟩,.inl rfl,by simp⟩
   ·simp only [List.size_toArray,List.length_append,List.length_take,List.length_drop,Array.length_toList]
    omega
   ·rw [htake,← hlen]
    exact List.take_left
  ·have holds : ∀ j u,xs[j]? = some u → w.cell? ((⟨g,0,none⟩ : Addr).add j) = some u:=hown.cells (g:=g) rfl
   have hr:=run_append_grow (P:=P) w t ty e i z ht hi hz ⟨g,0,none⟩ n cap xs hown.1 holds a m c news hl hnews (by omega) (by omega) (growslice_fits (by omega) hbytes)
   have hgr:=grown cap (by omega) (fun b=>Value.ownBlock (.slice (some ⟨g,0,none⟩) n cap) = some b)
   exact ⟨_,_,hr,hgr.1,hgr.2,.inr rfl,hgr.2.size⟩
theorem append_law_nil (t ty e : TypeId) (i : TypeInfo) (size : Nat) (ht : P.underlying t = some (.slice e)) (hi : P.info? e = some i)
 (hsize : i.size = size) (v : Value) (n : Nat) (xs : List Value) (hown : w.ownsRow 0 e size v n xs) :
 (Builtin.append_ #[t,t] ty #[v,.slice none 0 0]).run P w = .ok v w:=by
 subst hsize
 rcases hown.2 with ⟨rfl,rfl⟩ | ⟨g,cap,cur,rfl,hbg,hg,hnc,hcm,hcs,htake⟩
 ·simp [Builtin.append_,run_underlying ht,sizeOf,typeInfo,hi,Builtin.lenOf,Builtin.firstCells,loadCells,loadCellsFrom]
 ·simp [Builtin.append_,run_underlying ht,sizeOf,typeInfo,hi,Builtin.lenOf,hnc,Builtin.firstCells,storeCells]
theorem Kb6 {b : Nat} {cs : Array Value} {e : TypeId} {size n cap : Nat} {xs : List Value} (h : w.heap[b]? = some (.cells cs e (0,0))) (hn : n ≤ cap) (hc : cap ≤ maxLen) (hs : cs.size = cap * size) (hx : cs.toList.take (n * size) = xs) (hl : xs.length = n * size) :
 w.ownsRow 0 e size (.slice (some ⟨b,0,none⟩) n cap) n xs:=⟨hl,.inr ⟨b,cap,cs,rfl,Nat.zero_le _,h,hn,hc,hs,hx⟩⟩
theorem Kap (b o j : Nat) : (⟨b,o,none⟩ : Addr).add j = ⟨b,o + j,none⟩:=by unfold Addr.add;split <;> simp_all
end
theorem foldl_set_list (l : List Value) : ∀ (k : Nat) (cs : Array Value),k + l.length ≤ cs.size →
 ((l.zipIdx k).foldl (fun cs (p : Value × Nat)=>cs.setIfInBounds (0 + p.2) p.1) cs).size = cs.size ∧
 ∀ i,((l.zipIdx k).foldl (fun cs (p : Value × Nat)=>cs.setIfInBounds (0 + p.2) p.1) cs)[i]? = if k ≤ i ∧ i < k + l.length then l[i - k]? else cs[i]?:=by
 induction l with
 | nil=>intro k cs _;exact ⟨rfl,fun i=>by rw [if_neg (by simp only [List.length_nil];omega)];rfl⟩
 | cons v l ih =>
   intro k cs h
   simp only [List.length_cons] at h
   obtain ⟨h1,h2⟩:=ih (k + 1) (cs.setIfInBounds (0 + k) v) (by simp;omega)
   simp only [List.zipIdx_cons,List.foldl_cons]
   refine ⟨by rw [h1];simp,fun i=>?_⟩
   rw [h2]
   by_cases hi : i = k
   ·subst hi
    rw [if_neg (by omega),if_pos (by simp),Nat.sub_self,Array.getElem?_setIfInBounds]
    simp;omega
   ·by_cases h3 : k + 1 ≤ i ∧ i < k + 1 + l.length
    ·rw [if_pos h3,if_pos (by simp only [List.length_cons];omega)]
     have : i - k = (i - (k + 1)) + 1:=by omega
     rw [this,List.getElem?_cons_succ]
    ·rw [if_neg h3,if_neg (by simp only [List.length_cons];omega),Array.getElem?_setIfInBounds,if_neg (by omega)]
theorem foldl_set (vs cs : Array Value) (h : cs.size = vs.size) : vs.zipIdx.foldl (fun cs (p : Value × Nat)=>cs.setIfInBounds (0 + p.2) p.1) cs = vs:=by
 have h0:=foldl_set_list vs.toList 0 cs (by simp [h])
 have e : vs.zipIdx.foldl (fun cs (p : Value × Nat)=>cs.setIfInBounds (0 + p.2) p.1) cs = (vs.toList.zipIdx 0).foldl (fun cs (p : Value × Nat)=>cs.setIfInBounds (0 + p.2) p.1) cs:=by
  rw [← Array.foldl_toList,Array.toList_zipIdx]
 rw [e]
 apply Array.ext_getElem?
 intro i
 rw [h0.2 i]
 by_cases hi : i < vs.size
 ·rw [if_pos (by simp;omega)];simp
 ·rw [if_neg (by simp;omega),Array.getElem?_eq_none (by omega),Array.getElem?_eq_none (by omega)]
theorem Ka0 {P : Program} {w : World} {t e : TypeId} {size : Nat} {z v : Value} (ht : P.underlying t = some (.slice e)) (hs : ∀ w,(sizeOf e).run P w = .ok size w) (hz : ∀ w,(zeroValue e).run P w = .ok z w) (hv : v.cells.size = size) (h0 : 0 < size) (h1 : size ≤ 2 ^ 24) :
 (Instr.buildSlice t 1 #[(0,v)]).run P w = .ok (.slice (some ⟨w.heap.size,0,none⟩) 1 1) (w.alloc (.cells v.cells e)):=by
 have hn : ¬ (1 * size > 2 ^ 24):=by omega
 have hn0 : ¬ (1 * size = 0):=by omega
 have hf : Instr.fill (fun i=>some (i * size,size)) ((Array.range (1 * size)).map (z.cells[· % z.cells.size]!)) [(0,v)] = some v.cells:=by
  simp only [Instr.fill]
  rw [if_neg (by simp [hv])]
  congr 1
  have:=foldl_set v.cells ((Array.range (1 * size)).map (z.cells[· % z.cells.size]!)) (by simp [hv])
  simpa using this
 unfold Instr.buildSlice
 simp only [Sem.run_bind,run_underlying ht,Result.andThen_ok,hs,hn,if_false,hn0,hz,Sem.run_pure,hf]
 rfl
def RowAt (w : World) (b c : Nat) (e : TypeId) (xs : List Value) : Prop:=∃ cur : Array Value,w.heap[b]? = some (.cells cur e (0,0)) ∧ cur.size = c ∧ xs.length ≤ c ∧ cur.toList.take xs.length = xs
section
variable {w w' : World} {b c : Nat} {e : TypeId} {xs : List Value}
theorem RowAt.cell (h : RowAt w b c e xs) {j : Nat} {u : Value} (hu : xs[j]? = some u) : w.cell? ⟨b,j,none⟩ = some u:=by
 obtain ⟨cur,h1,h2,h3,h4⟩:=h
 refine Kac h1 ?_
 have hj : j < xs.length:=(List.getElem?_eq_some_iff.1 hu).1
 rw [← h4,List.getElem?_take_of_lt hj] at hu
 rw [← hu];simp
theorem RowAt.free (h : RowAt w b c e xs) (j : Nat) : w.frozen? ⟨b,j,none⟩ = false:=by obtain ⟨cur,h1,_⟩:=h;exact Kbe h1
theorem RowAt.lt (h : RowAt w b c e xs) : b < w.heap.size:=by obtain ⟨cur,h1,_⟩:=h;exact (Array.getElem?_eq_some_iff.1 h1).1
theorem RowAt.of_heap (h : RowAt w b c e xs) (g : w'.heap[b]? = w.heap[b]?) : RowAt w' b c e xs:=by obtain ⟨cur,h1,h2⟩:=h;exact ⟨cur,g.trans h1,h2⟩
theorem RowAt.touch {S : Nat → Prop} (h : RowAt w b c e xs) (g : Touch S w w') (hn : ¬ S b) : RowAt w' b c e xs:=by obtain ⟨cur,h1,h2⟩:=h;exact ⟨cur,g.heap h1 hn,h2⟩
theorem RowAt.put (h : RowAt w b c e xs) {j : Nat} (hj : j < xs.length) (v : Value) : RowAt (w.setCell ⟨b,j,none⟩ v) b c e (xs.set j v):=by
 obtain ⟨cur,h1,h2,h3,h4⟩:=h
 refine ⟨_,heap_setCell_same w b j cur e v h1,by simp [h2],by simpa using h3,?_⟩
 rw [List.length_set,Array.toList_setIfInBounds,List.take_set,h4]
theorem RowAt.other (h : RowAt w b c e xs) {g j : Nat} (hg : b ≠ g) (v : Value) : RowAt (w.setCell ⟨g,j,none⟩ v) b c e xs:=h.of_heap (Below.heap_setCell w ⟨g,j,none⟩ v b hg)
theorem RowAt.own {n : Nat} (h : w.ownsRow 0 e 1 (.slice (some ⟨b,0,none⟩) n c) n xs) : RowAt w b c e xs:=by
 obtain ⟨hl,h⟩:=h
 rcases h with ⟨h,_⟩ | ⟨g,cap,cur,h,_,hg,hnc,hcm,hcs,htake⟩
 ·cases h
 ·cases h
  have hl' : xs.length = n:=by rw [hl,Nat.mul_one]
  refine ⟨cur,hg,by rw [hcs,Nat.mul_one],by omega,?_⟩
  rw [Nat.mul_one] at htake
  rw [hl'];exact htake
end
def strV (l : List UInt8) : Value:=.string (strB l)
theorem Ka3 {P : Program} {fn : Func} {p : Tmp} {ty : TypeId} (h : fn.results = #[.cell p ty]) (tmps : Array Value) (w : World) (ad : Addr) (v : Value)
 (hp : tmps.getD p undef = .pointer (some ad)) (hl : (loadVar ty ad).run P w = .ok v w) : (results fn tmps).run P w = .ok v w:=by
 have hp' : tmps[p]?.getD undef = .pointer (some ad):=by simpa using hp
 simp [results,h,hp',asAddr,hl]
theorem Kak {a b : Bool} (h : a = b) : Ending.returned (.bool a) = .returned (.bool b):=by rw [h]
theorem ret_int {k : IntKind} {a b : Int} (h : a = b) : Ending.returned (.int k a) = .returned (.int k b):=by rw [h]
theorem run_neStr (P : Program) (t : TypeId) (x y : List UInt8) (W : World) : (binOp .neq t (.string (strB x)) (.string (strB y))).run P W = .ok (.bool (decide (x ≠ y))) W:=by
 by_cases h : x = y <;> simp [go_sem,Kas,h]
theorem Kad {w : World} (o : Obj) : Below w.heap.size w (w.alloc o):=(Below.refl _ _).alloc (Nat.le_refl _) _
theorem below_drewN (w : World) (q : Nat) : Below w.heap.size w (w.drewN q):=⟨rfl,rfl,rfl,Nat.le_refl _,fun _ _=>rfl⟩
theorem Kaa {w w1 w2 : World} (h : Below w.heap.size w w1) (g : Below w1.heap.size w1 w2) : Below w.heap.size w w2:=h.trans (g.mono h.size)
section
variable {P : Program} {ops : Array Oper} {K : Exit → Act → World → Prop} {S : World → Prop} {fuel : Nat} {listed : Array Bool} {a : Act} {w : World}
theorem tm (i d : Nat) {oi : Oper} {x : Operand} {v : Value} (hi : ops[i]? = some oi) (ho : oi.op = .move x) (hx : a.eval x = v) (h : wpE P ops K S fuel (listed.setIfInBounds i true) (a.put (some d) v) w) (hdst : oi.dst = some d:=by rfl)
 (hs : Region.noSelect ops = true:=by kernel_rfl) (hf : Region.free .any ops listed i = true:=by kernel_rfl) (hr : (Region.ready .any ops listed).contains i = true:=by kernel_rfl) (hw : Region.wanted oi (yielded ops a.tmps) = true:=by rfl) (hS : S w:=by assumption) : wpE P ops K S (fuel + 1) listed a w :=
 take i d hi hdst hs hf hr hw (fun w _=>exec_move ho hx) hS h
end
inductive V where
 | mk (kind : Int) (b : Bool) (n : Int) (text : List UInt8) (keys : List (List UInt8)) (list : List V)
namespace V
def kind : V → Int | mk k _ _ _ _ _=>k
def b : V → Bool | mk _ b _ _ _ _=>b
def n : V → Int | mk _ _ n _ _ _=>n
def text : V → List UInt8 | mk _ _ _ t _ _=>t
def keys : V → List (List UInt8) | mk _ _ _ _ ks _=>ks
def list : V → List V | mk _ _ _ _ _ l=>l
theorem ind {P : V → Prop} (h : ∀ k b n t ks l,(∀ v ∈ l,P v) → P (mk k b n t ks l)) : ∀ v,P v:=by
 intro v
 refine V.rec (motive_1:=P) (motive_2:=fun l=>∀ v ∈ l,P v) (fun k b n t ks l ih=>h k b n t ks l ih) (fun v hv=>by cases hv) (fun v l hv hl u hu=>?_) v
 rcases List.mem_cons.1 hu with rfl | hu
 ·exact hv
 ·exact hl u hu
end V
def cmpI (a b : Int) : Int:=if a < b then -1 else if b < a then 1 else 0
def cmpL {α : Type} (f : α → α → Int) : List α → List α → Int
 | [],[]=>0
 | [],_ :: _=>-1
 | _ :: _,[]=>1
 | a :: x,b :: y=>if f a b ≠ 0 then f a b else cmpL f x y
def cmpB (a b : List UInt8) : Int:=cmpL (fun x y : UInt8=>cmpI x.toNat y.toNat) a b
structure OrdAt {α : Type} (f : α → α → Int) (a : α) : Prop where
 range : ∀ b,f a b = -1 ∨ f a b = 0 ∨ f a b = 1
 anti : ∀ b,f b a = - f a b
 congr : ∀ b c,f a b = 0 → f a c = f b c
 chain : ∀ b c,f a b = -1 → f b c ≤ 0 → f a c = -1
theorem Kbv (a b : Int) : (a < b ∧ cmpI a b = -1) ∨ (a = b ∧ cmpI a b = 0) ∨ (b < a ∧ cmpI a b = 1):=by
 unfold cmpI
 by_cases h1 : a < b
 ·exact .inl ⟨h1,by rw [if_pos h1]⟩
 ·by_cases h2 : b < a
  ·exact .inr (.inr ⟨h2,by rw [if_neg h1,if_pos h2]⟩)
  ·exact .inr (.inl ⟨by omega,by rw [if_neg h1,if_neg h2]⟩)
theorem ord_cmpI (a : Int) : OrdAt cmpI a:=by
 refine ⟨fun b=>?_,fun b=>?_,fun b c h=>?_,fun b c h g=>?_⟩
 ·rcases Kbv a b with ⟨_,h⟩ | ⟨_,h⟩ | ⟨_,h⟩ <;> simp [h]
 ·rcases Kbv a b with ⟨_,h⟩ | ⟨_,h⟩ | ⟨_,h⟩ <;> rcases Kbv b a with ⟨_,g⟩ | ⟨_,g⟩ | ⟨_,g⟩ <;> rw [h,g] <;> omega
 ·rcases Kbv a b with ⟨_,e⟩ | ⟨e,_⟩ | ⟨_,e⟩
  ·omega
  ·rw [e]
  ·omega
 ·rcases Kbv a b with ⟨h1,e⟩ | ⟨h1,e⟩ | ⟨h1,e⟩ <;> rcases Kbv b c with ⟨h2,e2⟩ | ⟨h2,e2⟩ | ⟨h2,e2⟩ <;> rcases Kbv a c with ⟨h3,e3⟩ | ⟨h3,e3⟩ | ⟨h3,e3⟩ <;> omega
theorem ord_pull {α β : Type} {f : β → β → Int} (g : α → β) {a : α} (h : OrdAt f (g a)) : OrdAt (fun x y=>f (g x) (g y)) a :=
 ⟨fun b=>h.range _,fun b=>h.anti _,fun b c=>h.congr _ _,fun b c=>h.chain _ _⟩
theorem ord_cmpL {α : Type} {f : α → α → Int} : ∀ (l : List α),(∀ a ∈ l,OrdAt f a) → OrdAt (cmpL f) l:=by
 intro l
 induction l with
 | nil =>
   intro _
   refine ⟨fun b=>?_,fun b=>?_,fun b c h=>?_,fun b c h g=>?_⟩
   ·cases b <;> simp [cmpL]
   ·cases b <;> simp [cmpL]
   ·cases b with
    | nil=>rfl
    | cons=>simp [cmpL] at h
   ·cases b with
    | nil=>simp [cmpL] at h
    | cons=>cases c with
      | nil=>simp [cmpL] at g
      | cons=>simp [cmpL]
 | cons a x ih =>
   intro hl
   have ha:=hl a (by simp)
   have hx:=ih fun y hy=>hl y (by simp [hy])
   refine ⟨fun b=>?_,fun b=>?_,fun b c h=>?_,fun b c h g=>?_⟩
   ·cases b with
    | nil=>simp [cmpL]
    | cons b y =>
      unfold cmpL
      split
      ·exact ha.range b
      ·exact hx.range y
   ·cases b with
    | nil=>simp [cmpL]
    | cons b y =>
      unfold cmpL
      rw [ha.anti b,hx.anti y]
      by_cases e : f a b = 0
      ·simp [e]
      ·rw [if_pos (by omega),if_pos e]
   ·cases b with
    | nil=>simp [cmpL] at h
    | cons b y =>
      unfold cmpL at h
      by_cases e : f a b = 0
      ·rw [if_neg (by omega)] at h
       cases c with
       | nil=>simp [cmpL]
       | cons c z =>
         unfold cmpL
         rw [ha.congr b c e,hx.congr y z h]
      ·rw [if_pos e] at h;omega
   ·cases b with
    | nil=>simp [cmpL] at h
    | cons b y =>
      cases c with
      | nil=>simp [cmpL] at g
      | cons c z =>
        unfold cmpL at h g ⊢
        by_cases e : f a b = 0
        ·rw [if_neg (by omega)] at h
         rw [ha.congr b c e]
         by_cases e2 : f b c = 0
         ·rw [if_neg (by omega)] at g
          rw [if_neg (by omega)]
          exact hx.chain y z h g
         ·rw [if_pos e2] at g
          rw [if_pos e2]
          have:=ha.range c
          rw [ha.congr b c e] at this
          omega
        ·rw [if_pos e] at h
         have h2 : f b c ≤ 0:=by
          by_cases e2 : f b c = 0
          ·omega
          ·rw [if_pos e2] at g;exact g
         have:=ha.chain b c h h2
         rw [if_pos (by omega)];exact this
theorem ord_cmpB (l : List UInt8) : OrdAt cmpB l:=ord_cmpL l fun a _=>ord_pull (f:=cmpI) (fun x : UInt8=>(x.toNat : Int)) (ord_cmpI _)
theorem cmpI_zero {a b : Int} (h : cmpI a b = 0) : a = b:=by rcases Kbv a b with ⟨_,e⟩ | ⟨e,_⟩ | ⟨_,e⟩ <;> omega
theorem cmpL_zero {α : Type} {f : α → α → Int} : ∀ {l m : List α},(∀ a ∈ l,∀ b,f a b = 0 → a = b) → cmpL f l m = 0 → l = m
 | [],[],_,_=>rfl
 | [],_ :: _,_,h=>by simp [cmpL] at h
 | _ :: _,[],_,h=>by simp [cmpL] at h
 | a :: x,b :: y,hz,h=>by
   unfold cmpL at h
   by_cases e : f a b = 0
   ·rw [if_neg (by omega)] at h
    rw [hz a (by simp) b e,cmpL_zero (fun a ha=>hz a (by simp [ha])) h]
   ·rw [if_pos e] at h;exact absurd h e
theorem cmpB_zero {l m : List UInt8} (h : cmpB l m = 0) : l = m:=cmpL_zero (fun a _ b e=>by have:=cmpI_zero e;exact UInt8.toNat_inj.1 (by omega)) h
theorem OrdAt.self {α : Type} {f : α → α → Int} {a : α} (h : OrdAt f a) : f a a = 0:=by have:=h.anti a;omega
def ltB (a b : List UInt8) : Bool:=cmpB a b == -1
def Ka1 : List (List UInt8) → Bool
 | []=>true
 | [_]=>true
 | a :: b :: r=>ltB a b && Ka1 (b :: r)
def bareV (v : V) : Bool :=
 (v.kind == 1 || !v.b) && (v.kind == 2 || v.kind == 6 || v.kind == 7 || v.n == 0) && (v.kind == 3 || v.text.isEmpty) && (v.kind == 5 || v.keys.isEmpty) && (v.kind == 4 || v.kind == 5 || v.list.isEmpty)
def oneV (u : List UInt8 → Bool) (v : V) : Bool :=
 decide (0 ≤ v.kind) && decide (v.kind ≤ 7) && bareV v && (!(v.kind == 6 || v.kind == 7) || decide (0 ≤ v.n)) && u v.text && (!(v.kind == 5) || v.keys.length == v.list.length) && v.keys.all u && Ka1 v.keys
mutual
def mayV (u : List UInt8 → Bool) : V → Bool
 | .mk k b n t ks l=>oneV u (.mk k b n t ks l) && mayVs u l
def mayVs (u : List UInt8 → Bool) : List V → Bool
 | []=>true
 | a :: x=>mayV u a && mayVs u x
end
mutual
def countV : V → Nat
 | .mk _ _ _ _ _ l=>1 + Kbk l
def Kbk : List V → Nat
 | []=>0
 | a :: x=>countV a + Kbk x
end
mutual
def deepV : V → Nat
 | .mk _ _ _ _ _ l=>Kbj l + 1
def Kbj : List V → Nat
 | []=>0
 | a :: x=>max (deepV a) (Kbj x)
end
mutual
def Kci : V → Nat
 | .mk _ _ _ t ks l=>t.length + (ks.map List.length).sum + Ka6 l
def Ka6 : List V → Nat
 | []=>0
 | a :: x=>Kci a + Ka6 x
end
mutual
def longV : V → Nat
 | .mk _ _ _ _ _ l=>max l.length (Kbp l)
def Kbp : List V → Nat
 | []=>0
 | a :: x=>max (longV a) (Kbp x)
end
def checkV (u : List UInt8 → Bool) (v : V) : Int:=if mayV u v then (if 64 < deepV v || 1048576 < Kci v || 65536 < longV v then 3 else 0) else 110
theorem cmpB_self (l : List UInt8) : cmpB l l = 0:=(ord_cmpB l).self
mutual
def totV : V → Nat
 | .mk _ _ _ t ks l=>1 + t.length + ks.length + (ks.map List.length).sum + totVs l
def totVs : List V → Nat
 | []=>0
 | a :: x=>totV a + totVs x
end
theorem Kdf (k : Int) (b : Bool) (n : Int) (t : List UInt8) (ks : List (List UInt8)) (l : List V) : totV (.mk k b n t ks l) = 1 + t.length + ks.length + (ks.map List.length).sum + totVs l:=by rw [totV]
theorem totV_eq (v : V) : totV v = 1 + v.text.length + v.keys.length + (v.keys.map List.length).sum + totVs v.list:=by cases v;rw [totV];rfl
theorem Kcq (a : V) (x : List V) : totVs (a :: x) = totV a + totVs x:=by rw [totVs]
theorem totV_pos (v : V) : 1 ≤ totV v:=by rw [totV_eq];omega
theorem Kcy : ∀ l : List V,l.length ≤ totVs l:=by
 intro l
 induction l with
 | nil=>simp
 | cons a x ih=>rw [Kcq,List.length_cons];have:=totV_pos a;omega
theorem totVs_mem {l : List V} {a : V} (h : a ∈ l) : totV a ≤ totVs l:=by
 induction l with
 | nil=>simp at h
 | cons b x ih =>
   rw [Kcq]
   rcases List.mem_cons.1 h with rfl | h
   ·omega
   ·have:=ih h;omega
theorem totVs_append (l m : List V) : totVs (l ++ m) = totVs l + totVs m:=by
 induction l with
 | nil=>simp [totVs]
 | cons a x ih=>rw [List.cons_append,Kcq,Kcq,ih];omega
theorem sum_mem {l : List (List UInt8)} {a : List UInt8} (h : a ∈ l) : a.length ≤ (l.map List.length).sum:=by
 induction l with
 | nil=>simp at h
 | cons b x ih =>
   simp only [List.map_cons,List.sum_cons]
   rcases List.mem_cons.1 h with rfl | h
   ·omega
   ·have:=ih h;omega
end Go.Proofs.YtihfnegakcghiaaGreatDoor
namespace Go.Proofs.YtihfnegakcghiaaGreatDoor
open Go.RowKit
def RdS (w : World) (p : Option Addr) (c : Nat) (l : List (List UInt8)) : Prop :=
 l.length ≤ c ∧ (l.length ≤ 140737488355328 ∧ c ≤ 9223372036854775807) ∧ (p = none → c = 0) ∧ (∀ s ∈ l,s.length ≤ 140737488355328) ∧ ∀ ad,p = some ad → (l ≠ [] → ad.spot = none) ∧ ∀ (i : Nat) (s : List UInt8),l[i]? = some s → w.cell? ⟨ad.block,ad.off + i,none⟩ = some (.string (strB s))
def Six (w : World) (b o : Nat) (cs : Array Value) : Prop:=∃ c0 c1 c2 c3 c4 c5,cs = #[c0,c1,c2,c3,c4,c5] ∧ w.cell? ⟨b,o,none⟩ = some c0 ∧ w.cell? ⟨b,o + 1,none⟩ = some c1 ∧ w.cell? ⟨b,o + 2,none⟩ = some c2 ∧ w.cell? ⟨b,o + 3,none⟩ = some c3 ∧ w.cell? ⟨b,o + 4,none⟩ = some c4 ∧ w.cell? ⟨b,o + 5,none⟩ = some c5
mutual
def VRd (w : World) : V → Array Value → Prop
 | .mk k b n t ks l,cs=>∃ pk ck pl cl,cs = #[.int .i64 k,.bool b,.int .i64 n,.string (strB t),.slice pk ks.length ck,.slice pl l.length cl] ∧ t.length ≤ 140737488355328 ∧ RdS w pk ck ks ∧
    (l.length ≤ cl ∧ (l.length ≤ 140737488355328 ∧ cl ≤ 9223372036854775807) ∧ (pl = none → cl = 0)) ∧ ∀ ad,pl = some ad → (l ≠ [] → ad.spot = none) ∧ VRds w ad 0 l
def VRds (w : World) (ad : Addr) : Nat → List V → Prop
 | _,[]=>True
 | i,v :: r=>(∃ cs,Six w ad.block (ad.off + i * 6) cs ∧ VRd w v cs) ∧ VRds w ad (i + 1) r
end
theorem VRds_iff {w : World} {ad : Addr} : ∀ {l : List V} {i : Nat},VRds w ad i l ↔ ∀ (j : Nat) (v : V),l[j]? = some v → ∃ cs,Six w ad.block (ad.off + (i + j) * 6) cs ∧ VRd w v cs:=by
 intro l
 induction l with
 | nil=>intro i;simp [VRds]
 | cons a r ih =>
   intro i
   rw [VRds,ih]
   constructor
   ·rintro ⟨h1,h2⟩ j v hv
    cases j with
    | zero=>simp only [List.getElem?_cons_zero,Option.some.injEq] at hv;subst hv;exact h1
    | succ j=>have:=h2 j v (by simpa using hv);rwa [show i + 1 + j = i + (j + 1) by omega] at this
   ·intro h
    exact ⟨h 0 a rfl,fun j v hv=>by have:=h (j + 1) v (by simpa using hv);rwa [show i + (j + 1) = i + 1 + j by omega] at this⟩
def LRd (w : World) (p : Option Addr) (c : Nat) (l : List V) : Prop :=
 (l.length ≤ c ∧ (l.length ≤ 140737488355328 ∧ c ≤ 9223372036854775807) ∧ (p = none → c = 0)) ∧ ∀ ad,p = some ad → (l ≠ [] → ad.spot = none) ∧ ∀ (j : Nat) (v : V),l[j]? = some v → ∃ cs,Six w ad.block (ad.off + j * 6) cs ∧ VRd w v cs
theorem Kb0 {w : World} {k : Int} {b : Bool} {n : Int} {t : List UInt8} {ks : List (List UInt8)} {l : List V} {cs : Array Value} : VRd w (.mk k b n t ks l) cs ↔ ∃ pk ck pl cl,cs = #[.int .i64 k,.bool b,.int .i64 n,.string (strB t),.slice pk ks.length ck,.slice pl l.length cl] ∧ t.length ≤ 140737488355328 ∧ RdS w pk ck ks ∧ LRd w pl cl l:=by
 rw [VRd]
 simp only [VRds_iff,Nat.zero_add,LRd]
theorem VRd.open {w : World} {v : V} {cs : Array Value} (h : VRd w v cs) : ∃ pk ck pl cl,cs = #[.int .i64 v.kind,.bool v.b,.int .i64 v.n,.string (strB v.text),.slice pk v.keys.length ck,.slice pl v.list.length cl] ∧ v.text.length ≤ 140737488355328 ∧ RdS w pk ck v.keys ∧ LRd w pl cl v.list:=by
 cases v;exact Kb0.1 h
theorem VRd.mk' {w : World} {v : V} {pk pl : Option Addr} {ck cl : Nat} (ht : v.text.length ≤ 140737488355328) (hk : RdS w pk ck v.keys) (hl : LRd w pl cl v.list) : VRd w v #[.int .i64 v.kind,.bool v.b,.int .i64 v.n,.string (strB v.text),.slice pk v.keys.length ck,.slice pl v.list.length cl]:=by
 cases v;exact Kb0.2 ⟨_,_,_,_,rfl,ht,hk,hl⟩
section
variable {w w' : World}
theorem RdS.below {p : Option Addr} {c : Nat} {l : List (List UInt8)} (h : RdS w p c l) (g : Below w.heap.size w w') : RdS w' p c l:=by
 obtain ⟨h1,h2,h3,h5,h4⟩:=h
 exact ⟨h1,h2,h3,h5,fun ad had=>⟨(h4 ad had).1,fun i s hs=>Kae g (ltOf ((h4 ad had).2 i s hs)) ((h4 ad had).2 i s hs)⟩⟩
theorem Six.below {b o : Nat} {cs : Array Value} (h : Six w b o cs) (g : Below w.heap.size w w') : Six w' b o cs:=by
 obtain ⟨c0,c1,c2,c3,c4,c5,e,h0,h1,h2,h3,h4,h5⟩:=h
 exact ⟨c0,c1,c2,c3,c4,c5,e,Kae g (ltOf h0) h0,Kae g (ltOf h1) h1,Kae g (ltOf h2) h2,Kae g (ltOf h3) h3,Kae g (ltOf h4) h4,Kae g (ltOf h5) h5⟩
theorem VRd.below (g : Below w.heap.size w w') : ∀ {v : V} {cs : Array Value},VRd w v cs → VRd w' v cs:=by
 intro v
 refine V.ind (P:=fun v=>∀ {cs : Array Value},VRd w v cs → VRd w' v cs) (fun k b n t ks l ih cs h=>?_) v
 obtain ⟨pk,ck,pl,cl,e,ht,hk,h1,h2⟩:=Kb0.1 h
 refine Kb0.2 ⟨pk,ck,pl,cl,e,ht,hk.below g,h1,fun ad had=>⟨(h2 ad had).1,fun j v hv=>?_⟩⟩
 obtain ⟨cs,h6,hv'⟩:=(h2 ad had).2 j v hv
 exact ⟨cs,h6.below g,ih v (List.mem_of_getElem? hv) hv'⟩
theorem LRd.below {p : Option Addr} {c : Nat} {l : List V} (h : LRd w p c l) (g : Below w.heap.size w w') : LRd w' p c l:=by
 obtain ⟨h1,h2⟩:=h
 refine ⟨h1,fun ad had=>⟨(h2 ad had).1,fun j v hv=>?_⟩⟩
 obtain ⟨cs,h6,hv'⟩:=(h2 ad had).2 j v hv
 exact ⟨cs,h6.below g,hv'.below g⟩
theorem RdS.get {p : Option Addr} {c : Nat} {l : List (List UInt8)} (h : RdS w p c l) {i : Nat} (hi : i < l.length) : ∃ b o,p = some ⟨b,o,none⟩ ∧ w.cell? ⟨b,o + i,none⟩ = some (.string (strB l[i])) ∧ l[i].length ≤ 140737488355328:=by
 obtain ⟨h1,h2,h3,h5,h4⟩:=h
 cases p with
 | none=>have:=h3 rfl;omega
 | some ad =>
   obtain ⟨hs,hc⟩:=h4 ad rfl
   have hs:=hs (fun e=>by rw [e] at hi;simp at hi)
   obtain ⟨b,o,sp⟩:=ad
   simp only at hs;subst hs
   exact ⟨b,o,rfl,hc i _ (List.getElem?_eq_getElem hi),h5 _ (List.getElem_mem hi)⟩
theorem LRd.get {p : Option Addr} {c : Nat} {l : List V} (h : LRd w p c l) {i : Nat} (hi : i < l.length) : ∃ b o cs,p = some ⟨b,o,none⟩ ∧ Six w b (o + i * 6) cs ∧ VRd w l[i] cs:=by
 obtain ⟨⟨h1,h2,h3⟩,h4⟩:=h
 cases p with
 | none=>have:=h3 rfl;omega
 | some ad =>
   obtain ⟨hs,hc⟩:=h4 ad rfl
   have hs:=hs (fun e=>by rw [e] at hi;simp at hi)
   obtain ⟨b,o,sp⟩:=ad
   simp only at hs;subst hs
   obtain ⟨cs,h6,hv⟩:=hc i _ (List.getElem?_eq_getElem hi)
   exact ⟨b,o,cs,rfl,h6,hv⟩
end
theorem LRd.at {w : World} {p : Option Addr} {c : Nat} {l : List V} (h : LRd w p c l) {i : Nat} (hi : i < l.length) : ∃ b o pk ck pl cl,p = some ⟨b,o,none⟩ ∧
 (w.cell? ⟨b,o + i * 6,none⟩ = some (.int .i64 l[i].kind) ∧ w.cell? ⟨b,o + i * 6 + 1,none⟩ = some (.bool l[i].b) ∧ w.cell? ⟨b,o + i * 6 + 2,none⟩ = some (.int .i64 l[i].n) ∧ w.cell? ⟨b,o + i * 6 + 3,none⟩ = some (.string (strB l[i].text)) ∧
   w.cell? ⟨b,o + i * 6 + 4,none⟩ = some (.slice pk l[i].keys.length ck) ∧ w.cell? ⟨b,o + i * 6 + 5,none⟩ = some (.slice pl l[i].list.length cl)) ∧
 VRd w l[i] #[.int .i64 l[i].kind,.bool l[i].b,.int .i64 l[i].n,.string (strB l[i].text),.slice pk l[i].keys.length ck,.slice pl l[i].list.length cl]:=by
 obtain ⟨b,o,cs,hp,⟨c0,c1,c2,c3,c4,c5,e,h0,h1,h2,h3,h4,h5⟩,hv⟩:=h.get hi
 obtain ⟨pk,ck,pl,cl,e2,ht,hk,hl⟩:=hv.open
 rw [e2] at e
 have hx:=e.symm
 simp only [Array.mk.injEq,List.cons.injEq,and_true] at hx
 obtain ⟨rfl,rfl,rfl,rfl,rfl,rfl⟩:=hx
 exact ⟨b,o,pk,ck,pl,cl,hp,⟨h0,h1,h2,h3,h4,h5⟩,VRd.mk' ht hk hl⟩
end Go.Proofs.YtihfnegakcghiaaGreatDoor
namespace Go.Proofs
open Go.Shelf
def Tryz.lays137_ren : Go.Shelf.Ren:=⟨fun | 137=>110 | 217=>163 | 266=>207 | n=>n,fun | 9=>9 | 5=>5 | 3=>3 | n=>n,fun | n=>n⟩
theorem Tryz.lays137 : Go.Proofs.Lays.n137 Tryz.prog Tryz.lays137_ren:={
 mixed:=by kernel_rfl
 f137:=Tryz.func110.trans (congrArg some (by kernel_rfl))
 f217:=Tryz.func163.trans (congrArg some (by kernel_rfl))
 f266:=Tryz.func207.trans (congrArg some (by kernel_rfl))
 t3:=Tryz.underlying3
 a3:=Tryz.isAgg3
 z3:=Tryz.sizeOf3
 v3:=Tryz.zeroValue3
 t5:=Tryz.underlying5
 a5:=Tryz.isAgg5
 z5:=Tryz.sizeOf5
 v5:=Tryz.zeroValue5
 t9:=Tryz.underlying9
 a9:=Tryz.isAgg9
 z9:=Tryz.sizeOf9
 v9:=Tryz.zeroValue9 }
open Go.RowKit in
theorem Tryz.strings_IndexByte (s : ByteArray) (c : Int) (w : World) :
 Calls Tryz.prog 110 #[.string s,.int .u8 c] w fun e w'=>e = .returned (.int .i64 (Lib.indexByte s.data.toList c.toNat.toUInt8)) ∧ w' = w:=Any.strings_IndexByte Tryz.lays137 s c w
def Tryz.laysNm216_ren : Go.Shelf.Ren:=⟨fun | 16=>44 | n=>n,fun | 24=>26 | 9=>9 | 4=>4 | n=>n,fun | n=>n⟩
theorem Tryz.laysNm216 : Go.Proofs.Lays2.n16 Tryz.prog Tryz.laysNm216_ren:={
 mixed:=by kernel_rfl
 f16:=Tryz.func44.trans (congrArg some (by kernel_rfl))
 t4:=Tryz.underlying4
 a4:=Tryz.isAgg4
 z4:=Tryz.sizeOf4
 v4:=Tryz.zeroValue4
 t9:=Tryz.underlying9
 a9:=Tryz.isAgg9
 z9:=Tryz.sizeOf9
 v9:=Tryz.zeroValue9
 t24:=Tryz.underlying26
 a24:=Tryz.isAgg26
 z24:=Tryz.sizeOf26
 v24:=Tryz.zeroValue26
 i9:=by kernel_rfl }
open Go.RowKit Go.Lib in
theorem Tryz.slices_Clone_string (b off n c : Nat) (zs : List ByteArray) (w : World) (hz : n ≤ zs.length) (hbig : n * 16 ≤ 140737488355328) (hc : ∀ j,j < zs.length → w.cell? ⟨b,off + j,none⟩ = some (.string (zs.getD j ByteArray.empty))) :
 Calls Tryz.prog 44 #[.slice (some ⟨b,off,none⟩) n c] w fun e w'=>∃ v',e = .returned v' ∧ w'.ownsRow w.heap.size 9 1 v' n ((zs.take n).map (Value.string)) ∧ v' ≠ .slice none 0 0 ∧ Below w.heap.size w w':=Any.slices_Clone_string Tryz.laysNm216 b off n c zs w hz hbig hc
open Go.RowKit Go.Lib in
theorem Tryz.slices_Clone_string_nil (n c : Nat) (w : World) :
 Calls Tryz.prog 44 #[.slice none n c] w fun e w'=>e = .returned (.slice none 0 0) ∧ w' = w:=Any.slices_Clone_string_nil Tryz.laysNm216 n c w
open Go.RowKit Go.Lib in
theorem Tryz.slices_Clone_string_zero (a : Addr) (c : Nat) (w : World) :
 Calls Tryz.prog 44 #[.slice (some a) 0 c] w fun e w'=>∃ v',e = .returned v' ∧ w'.ownsRow w.heap.size 9 1 v' 0 [] ∧ v' ≠ .slice none 0 0 ∧ Below w.heap.size w w':=Any.slices_Clone_string_zero Tryz.laysNm216 a c w
def Tryz.lays194_ren : Go.Shelf.Ren:=⟨fun | 194=>46 | n=>n,fun | 31=>26 | 9=>9 | 3=>3 | 4=>4 | 0=>0 | n=>n,fun | n=>n⟩
theorem Tryz.lays194 : Go.Proofs.Lays.n194 Tryz.prog Tryz.lays194_ren:={
 mixed:=by kernel_rfl
 f194:=Tryz.func46.trans (congrArg some (by kernel_rfl))
 t0:=Tryz.underlying0
 a0:=Tryz.isAgg0
 z0:=Tryz.sizeOf0
 v0:=Tryz.zeroValue0
 t3:=Tryz.underlying3
 a3:=Tryz.isAgg3
 z3:=Tryz.sizeOf3
 v3:=Tryz.zeroValue3
 t4:=Tryz.underlying4
 a4:=Tryz.isAgg4
 z4:=Tryz.sizeOf4
 v4:=Tryz.zeroValue4
 t9:=Tryz.underlying9
 a9:=Tryz.isAgg9
 z9:=Tryz.sizeOf9
 v9:=Tryz.zeroValue9
 t31:=Tryz.underlying26
 a31:=Tryz.isAgg26
 z31:=Tryz.sizeOf26
 v31:=Tryz.zeroValue26 }
open Go.RowKit Go.Lib Go.Sort in
theorem Tryz.slices_Compact_string (blk off cap : Nat) (zs : List (List UInt8)) (w : World) (hH : Holds encStr w blk off zs.toArray) (hsz : zs.length ≤ 9223372036854775807) (hcap : zs.length ≤ cap) :
 Calls Tryz.prog 46 #[.slice (some ⟨blk,off,none⟩) zs.length cap] w fun e w'=>e = .returned (.slice (some ⟨blk,off,none⟩) (Lib.compact zs).length cap) ∧ ∃ q,w' = putRow encStr (Sort.ahead w q) blk off (Lib.compact zs ++ List.replicate (zs.length - (Lib.compact zs).length) []).toArray:=Any.slices_Compact_string Tryz.lays194 blk off cap zs w hH hsz hcap
open Go.RowKit Go.Lib Go.Sort in
theorem Tryz.slices_Compact_string_empty (a : Option Addr) (cap : Nat) (w : World) :
 Calls Tryz.prog 46 #[.slice a 0 cap] w fun e w'=>e = .returned (.slice a 0 cap) ∧ w' = w:=Any.slices_Compact_string_empty Tryz.lays194 a cap w
def Tryz.laysSlN49_f96_ren : Go.Shelf.Ren:=⟨fun | 49=>96 | 59=>138 | 60=>139 | 68=>187 | n=>n,fun | 22=>96 | 23=>2 | 3=>3 | 4=>4 | 51=>150 | 0=>0 | n=>n,fun | n=>n⟩
theorem Tryz.laysSlN49_f96 : Go.Proofs.SlLaysN.n49 Tryz.prog Tryz.laysSlN49_f96_ren:={
 mixed:=by kernel_rfl
 f49:=⟨Tryz.f96.name,by decide,Tryz.func96.trans (congrArg some (by kernel_rfl))⟩
 f59:=⟨Tryz.f138.name,by decide,Tryz.func138.trans (congrArg some (by kernel_rfl))⟩
 f60:=⟨Tryz.f139.name,by decide,Tryz.func139.trans (congrArg some (by kernel_rfl))⟩
 f68:=⟨Tryz.f187.name,by decide,Tryz.func187.trans (congrArg some (by kernel_rfl))⟩
 t0:=Tryz.underlying0
 a0:=Tryz.isAgg0
 z0:=Tryz.sizeOf0
 v0:=Tryz.zeroValue0
 t3:=Tryz.underlying3
 a3:=Tryz.isAgg3
 z3:=Tryz.sizeOf3
 v3:=Tryz.zeroValue3
 t4:=Tryz.underlying4
 a4:=Tryz.isAgg4
 z4:=Tryz.sizeOf4
 v4:=Tryz.zeroValue4
 t22:=Tryz.underlying96
 a22:=Tryz.isAgg96
 z22:=Tryz.sizeOf96
 v22:=Tryz.zeroValue96
 t23:=Tryz.underlying2
 a23:=Tryz.isAgg2
 z23:=Tryz.sizeOf2
 v23:=Tryz.zeroValue2
 t51:=Tryz.underlying150
 a51:=Tryz.isAgg150
 z51:=Tryz.sizeOf150
 v51:=Tryz.zeroValue150 }
open Go.RowKit Go.Lib in
theorem Tryz.slices_BinarySearch_int (b off n c : Nat) (zs : List Int) (x : Int) (w : World) (hz : n ≤ zs.length) (hbig : n < 4611686018427387904) (hc : ∀ j,j < zs.length → w.cell? ⟨b,off + j,none⟩ = some (.int .i64 (zs.getD j 0))) (hs : (zs.take n).Pairwise (· ≤ ·)) :
 Calls Tryz.prog 96 #[.slice (some ⟨b,off,none⟩) n c,.int .i64 x] w fun e w'=>e = .returned (.tuple #[.int .i64 ((zs.take n).countP (· < x) : Nat),.bool ((zs.take n).contains x)]) ∧ ∃ q,w' = w.drewN q:=AnyG.slices_BinarySearch_int Tryz.laysSlN49_f96 b off n c zs x w hz hbig hc hs
def Tryz.laysSlM5_f112_ren : Go.Shelf.Ren:=⟨fun | 5=>112 | 8=>107 | 7=>165 | 19=>160 | 20=>161 | 10=>208 | 11=>209 | 12=>210 | 13=>211 | 14=>212 | 15=>213 | 16=>138 | 17=>214 | 18=>215 | 30=>226 | 31=>203 | 32=>204 | 33=>227 | 34=>228 | 35=>187 | 40=>239 | n=>n,fun | 23=>96 | 25=>2 | 3=>3 | 32=>150 | 22=>96 | 0=>0 | 44=>191 | 46=>193 | 4=>4 | 36=>184 | 35=>183 | 41=>138 | 5=>5 | 9=>9 | 53=>220 | 57=>224 | 63=>236 | 64=>237 | n=>n,fun | n=>n⟩
theorem Tryz.laysSlM5_f112 : Go.Proofs.SlLaysM.n5 Tryz.prog Tryz.laysSlM5_f112_ren:={
 mixed:=by kernel_rfl
 f5:=⟨Tryz.f112.name,by decide,Tryz.func112.trans (congrArg some (by kernel_rfl))⟩
 f7:=⟨Tryz.f165.name,by decide,Tryz.func165.trans (congrArg some (by kernel_rfl))⟩
 f8:=Tryz.func107.trans (congrArg some (by kernel_rfl))
 f10:=⟨Tryz.f208.name,by decide,Tryz.func208.trans (congrArg some (by kernel_rfl))⟩
 f11:=⟨Tryz.f209.name,by decide,Tryz.func209.trans (congrArg some (by kernel_rfl))⟩
 f12:=⟨Tryz.f210.name,by decide,Tryz.func210.trans (congrArg some (by kernel_rfl))⟩
 f13:=⟨Tryz.f211.name,by decide,Tryz.func211.trans (congrArg some (by kernel_rfl))⟩
 f14:=⟨Tryz.f212.name,by decide,Tryz.func212.trans (congrArg some (by kernel_rfl))⟩
 f15:=⟨Tryz.f213.name,by decide,Tryz.func213.trans (congrArg some (by kernel_rfl))⟩
 f16:=⟨Tryz.f138.name,by decide,Tryz.func138.trans (congrArg some (by kernel_rfl))⟩
 f17:=⟨Tryz.f214.name,by decide,Tryz.func214.trans (congrArg some (by kernel_rfl))⟩
 f18:=⟨Tryz.f215.name,by decide,Tryz.func215.trans (congrArg some (by kernel_rfl))⟩
 f19:=Tryz.func160.trans (congrArg some (by kernel_rfl))
 f20:=Tryz.func161.trans (congrArg some (by kernel_rfl))
 f30:=⟨Tryz.f226.name,by decide,Tryz.func226.trans (congrArg some (by kernel_rfl))⟩
 f31:=Tryz.func203.trans (congrArg some (by kernel_rfl))
 f32:=Tryz.func204.trans (congrArg some (by kernel_rfl))
 f33:=⟨Tryz.f227.name,by decide,Tryz.func227.trans (congrArg some (by kernel_rfl))⟩
 f34:=⟨Tryz.f228.name,by decide,Tryz.func228.trans (congrArg some (by kernel_rfl))⟩
 f35:=⟨Tryz.f187.name,by decide,Tryz.func187.trans (congrArg some (by kernel_rfl))⟩
 f40:=⟨Tryz.f239.name,by decide,Tryz.func239.trans (congrArg some (by kernel_rfl))⟩
 t0:=Tryz.underlying0
 a0:=Tryz.isAgg0
 z0:=Tryz.sizeOf0
 v0:=Tryz.zeroValue0
 t3:=Tryz.underlying3
 a3:=Tryz.isAgg3
 z3:=Tryz.sizeOf3
 v3:=Tryz.zeroValue3
 t4:=Tryz.underlying4
 a4:=Tryz.isAgg4
 z4:=Tryz.sizeOf4
 v4:=Tryz.zeroValue4
 t5:=Tryz.underlying5
 a5:=Tryz.isAgg5
 z5:=Tryz.sizeOf5
 v5:=Tryz.zeroValue5
 t9:=Tryz.underlying9
 a9:=Tryz.isAgg9
 z9:=Tryz.sizeOf9
 v9:=Tryz.zeroValue9
 t22:=Tryz.underlying96
 a22:=Tryz.isAgg96
 z22:=Tryz.sizeOf96
 v22:=Tryz.zeroValue96
 t23:=Tryz.underlying96
 a23:=Tryz.isAgg96
 z23:=Tryz.sizeOf96
 v23:=Tryz.zeroValue96
 t25:=Tryz.underlying2
 a25:=Tryz.isAgg2
 z25:=Tryz.sizeOf2
 v25:=Tryz.zeroValue2
 t32:=Tryz.underlying150
 a32:=Tryz.isAgg150
 z32:=Tryz.sizeOf150
 v32:=Tryz.zeroValue150
 t35:=Tryz.underlying183
 a35:=Tryz.isAgg183
 z35:=Tryz.sizeOf183
 v35:=Tryz.zeroValue183
 t36:=Tryz.underlying184
 a36:=Tryz.isAgg184
 z36:=Tryz.sizeOf184
 v36:=Tryz.zeroValue184
 t41:=Tryz.underlying138
 a41:=Tryz.isAgg138
 z41:=Tryz.sizeOf138
 v41:=Tryz.zeroValue138
 t44:=Tryz.underlying191
 a44:=Tryz.isAgg191
 z44:=Tryz.sizeOf191
 v44:=Tryz.zeroValue191
 t46:=Tryz.underlying193
 a46:=Tryz.isAgg193
 z46:=Tryz.sizeOf193
 v46:=Tryz.zeroValue193
 t53:=Tryz.underlying220
 a53:=Tryz.isAgg220
 z53:=Tryz.sizeOf220
 v53:=Tryz.zeroValue220
 t57:=Tryz.underlying224
 a57:=Tryz.isAgg224
 z57:=Tryz.sizeOf224
 v57:=Tryz.zeroValue224
 t63:=Tryz.underlying236
 a63:=Tryz.isAgg236
 z63:=Tryz.sizeOf236
 v63:=Tryz.zeroValue236
 t64:=Tryz.underlying237
 a64:=Tryz.isAgg237
 z64:=Tryz.sizeOf237
 v64:=Tryz.zeroValue237 }
open Go.Sort Go.RowKit in
theorem Tryz.slices_Sort_int (blk off cap : Nat) (zs : List Int) (w : World) (hH : Holds (Value.int .i64) w blk off zs.toArray) (hblk : blk < w.heap.size) (hsz : zs.length < 4611686018427387904) :
 Calls Tryz.prog 112 #[.slice (some ⟨blk,off,none⟩) zs.length cap] w fun e w' =>
  e = .returned (.tuple #[]) ∧ ∃ n os,w' = grow (putRow (Value.int .i64) (Sort.ahead w n) blk off (zs.mergeSort fun x y=>decide (x ≤ y)).toArray) os:=AnyM.slices_Sort_int Tryz.laysSlM5_f112 blk off cap zs w hH hblk hsz
def Tryz.laysSlM6_f45_ren : Go.Shelf.Ren:=⟨fun | 6=>45 | 8=>107 | 9=>106 | 19=>160 | 20=>161 | 21=>151 | 22=>152 | 23=>153 | 24=>154 | 25=>155 | 26=>156 | 27=>157 | 28=>158 | 29=>159 | 36=>202 | 31=>203 | 32=>204 | 37=>205 | 38=>206 | 39=>150 | 41=>225 | n=>n,fun | 27=>26 | 29=>9 | 3=>3 | 32=>150 | 26=>26 | 0=>0 | 44=>191 | 46=>193 | 4=>4 | 36=>184 | 35=>183 | 41=>138 | 5=>5 | 9=>9 | 53=>220 | 57=>224 | 63=>236 | 64=>237 | n=>n,fun | n=>n⟩
theorem Tryz.laysSlM6_f45 : Go.Proofs.SlLaysM.n6 Tryz.prog Tryz.laysSlM6_f45_ren:={
 mixed:=by kernel_rfl
 f6:=⟨Tryz.f45.name,by decide,Tryz.func45.trans (congrArg some (by kernel_rfl))⟩
 f8:=Tryz.func107.trans (congrArg some (by kernel_rfl))
 f9:=⟨Tryz.f106.name,by decide,Tryz.func106.trans (congrArg some (by kernel_rfl))⟩
 f19:=Tryz.func160.trans (congrArg some (by kernel_rfl))
 f20:=Tryz.func161.trans (congrArg some (by kernel_rfl))
 f21:=⟨Tryz.f151.name,by decide,Tryz.func151.trans (congrArg some (by kernel_rfl))⟩
 f22:=⟨Tryz.f152.name,by decide,Tryz.func152.trans (congrArg some (by kernel_rfl))⟩
 f23:=⟨Tryz.f153.name,by decide,Tryz.func153.trans (congrArg some (by kernel_rfl))⟩
 f24:=⟨Tryz.f154.name,by decide,Tryz.func154.trans (congrArg some (by kernel_rfl))⟩
 f25:=⟨Tryz.f155.name,by decide,Tryz.func155.trans (congrArg some (by kernel_rfl))⟩
 f26:=⟨Tryz.f156.name,by decide,Tryz.func156.trans (congrArg some (by kernel_rfl))⟩
 f27:=⟨Tryz.f157.name,by decide,Tryz.func157.trans (congrArg some (by kernel_rfl))⟩
 f28:=⟨Tryz.f158.name,by decide,Tryz.func158.trans (congrArg some (by kernel_rfl))⟩
 f29:=⟨Tryz.f159.name,by decide,Tryz.func159.trans (congrArg some (by kernel_rfl))⟩
 f31:=Tryz.func203.trans (congrArg some (by kernel_rfl))
 f32:=Tryz.func204.trans (congrArg some (by kernel_rfl))
 f36:=⟨Tryz.f202.name,by decide,Tryz.func202.trans (congrArg some (by kernel_rfl))⟩
 f37:=⟨Tryz.f205.name,by decide,Tryz.func205.trans (congrArg some (by kernel_rfl))⟩
 f38:=⟨Tryz.f206.name,by decide,Tryz.func206.trans (congrArg some (by kernel_rfl))⟩
 f39:=⟨Tryz.f150.name,by decide,Tryz.func150.trans (congrArg some (by kernel_rfl))⟩
 f41:=⟨Tryz.f225.name,by decide,Tryz.func225.trans (congrArg some (by kernel_rfl))⟩
 t0:=Tryz.underlying0
 a0:=Tryz.isAgg0
 z0:=Tryz.sizeOf0
 v0:=Tryz.zeroValue0
 t3:=Tryz.underlying3
 a3:=Tryz.isAgg3
 z3:=Tryz.sizeOf3
 v3:=Tryz.zeroValue3
 t4:=Tryz.underlying4
 a4:=Tryz.isAgg4
 z4:=Tryz.sizeOf4
 v4:=Tryz.zeroValue4
 t5:=Tryz.underlying5
 a5:=Tryz.isAgg5
 z5:=Tryz.sizeOf5
 v5:=Tryz.zeroValue5
 t9:=Tryz.underlying9
 a9:=Tryz.isAgg9
 z9:=Tryz.sizeOf9
 v9:=Tryz.zeroValue9
 t26:=Tryz.underlying26
 a26:=Tryz.isAgg26
 z26:=Tryz.sizeOf26
 v26:=Tryz.zeroValue26
 t27:=Tryz.underlying26
 a27:=Tryz.isAgg26
 z27:=Tryz.sizeOf26
 v27:=Tryz.zeroValue26
 t29:=Tryz.underlying9
 a29:=Tryz.isAgg9
 z29:=Tryz.sizeOf9
 v29:=Tryz.zeroValue9
 t32:=Tryz.underlying150
 a32:=Tryz.isAgg150
 z32:=Tryz.sizeOf150
 v32:=Tryz.zeroValue150
 t35:=Tryz.underlying183
 a35:=Tryz.isAgg183
 z35:=Tryz.sizeOf183
 v35:=Tryz.zeroValue183
 t36:=Tryz.underlying184
 a36:=Tryz.isAgg184
 z36:=Tryz.sizeOf184
 v36:=Tryz.zeroValue184
 t41:=Tryz.underlying138
 a41:=Tryz.isAgg138
 z41:=Tryz.sizeOf138
 v41:=Tryz.zeroValue138
 t44:=Tryz.underlying191
 a44:=Tryz.isAgg191
 z44:=Tryz.sizeOf191
 v44:=Tryz.zeroValue191
 t46:=Tryz.underlying193
 a46:=Tryz.isAgg193
 z46:=Tryz.sizeOf193
 v46:=Tryz.zeroValue193
 t53:=Tryz.underlying220
 a53:=Tryz.isAgg220
 z53:=Tryz.sizeOf220
 v53:=Tryz.zeroValue220
 t57:=Tryz.underlying224
 a57:=Tryz.isAgg224
 z57:=Tryz.sizeOf224
 v57:=Tryz.zeroValue224
 t63:=Tryz.underlying236
 a63:=Tryz.isAgg236
 z63:=Tryz.sizeOf236
 v63:=Tryz.zeroValue236
 t64:=Tryz.underlying237
 a64:=Tryz.isAgg237
 z64:=Tryz.sizeOf237
 v64:=Tryz.zeroValue237 }
open Go.Sort Go.RowKit in
theorem Tryz.slices_Sort_string (blk off cap : Nat) (ss : List (List UInt8)) (w : World) (hH : Holds encStr w blk off ss.toArray) (hblk : blk < w.heap.size) (hsz : ss.length < 4611686018427387904) :
 Calls Tryz.prog 45 #[.slice (some ⟨blk,off,none⟩) ss.length cap] w fun e w' =>
  e = .returned (.tuple #[]) ∧ ∃ n os,w' = grow (putRow encStr (Sort.ahead w n) blk off (ss.mergeSort fun x y=>decide (x ≤ y)).toArray) os:=AnyM.slices_Sort_string Tryz.laysSlM6_f45 blk off cap ss w hH hblk hsz
open Go.RowKit Go.Sort in
theorem Tryz.slices_Sort_string_none (p : Option Addr) (cap : Nat) (w : World) :
 Calls Tryz.prog 45 #[.slice p 0 cap] w fun e w'=>e = .returned (.tuple #[]) ∧ w' = w:=AnyM.slices_Sort_string_none Tryz.laysSlM6_f45 p cap w
open Go.RowKit Go.Sort in
theorem Tryz.slices_Sort_int_none (p : Option Addr) (cap : Nat) (w : World) :
 Calls Tryz.prog 112 #[.slice p 0 cap] w fun e w'=>e = .returned (.tuple #[]) ∧ w' = w:=AnyM.slices_Sort_int_none Tryz.laysSlM5_f112 p cap w
end Go.Proofs
namespace Go.Proofs.YtihfnegakcghiaaGreatDoor
open Go.RowKit
theorem Kbw (y k : Nat) (hk : k < 6) (W : World) : (Instr.fieldAt 31 (.pointer (some ⟨y,0,none⟩)) k).run Tryz.prog W = .ok (.pointer (some ⟨y,k,none⟩)) W:=by
 have : k = 0 ∨ k = 1 ∨ k = 2 ∨ k = 3 ∨ k = 4 ∨ k = 5:=by omega
 rcases this with rfl | rfl | rfl | rfl | rfl | rfl <;> simp [go_sem]
def TwoV (w W : World) (x y : Array Value) : Prop:=W.heap[w.heap.size]? = some (.cells x 31 (0,0)) ∧ W.heap[w.heap.size + 1]? = some (.cells y 31 (0,0)) ∧ Below w.heap.size w W
theorem TwoV.below {w W W' : World} {x y : Array Value} (h : TwoV w W x y) (g : Below W.heap.size W W') : TwoV w W' x y :=
 ⟨Kai g (Array.getElem?_eq_some_iff.1 h.1).1 h.1,Kai g (Array.getElem?_eq_some_iff.1 h.2.1).1 h.2.1,Kaa h.2.2 g⟩
theorem TwoV.start (w : World) (x y : Array Value) : TwoV w ((w.alloc (.cells x 31)).alloc (.cells y 31)) x y:=by
 refine ⟨?_,?_,(Kad _).alloc (by simp) _⟩
 ·simp only [Kaw,World.size_alloc];rw [if_neg (by omega),if_pos trivial]
 ·simp only [Kaw,World.size_alloc];rw [if_pos trivial]
theorem get_val {W : World} {g : Nat} {c0 c1 c2 c3 c4 c5 : Value} {fr : Nat × Nat} (h : W.heap[g]? = some (.cells #[c0,c1,c2,c3,c4,c5] 31 fr)) : (loadVar 31 ⟨g,0,none⟩).run Tryz.prog W = .ok (.agg #[c0,c1,c2,c3,c4,c5]) W :=
 run_loadVar_row W g 31 31 _ fr _ h Tryz.underlying31 rfl (by kernel_rfl)
theorem exec_lenS {a : Act} {w : World} {o : Oper} {x : Operand} {p : Option Addr} {n c : Nat} (ho : o.op = .call { callee:=.builtin .len,args:=#[x],argTypes:=#[26] }) (hx : a.eval x = .slice p n c) : (execOp a.eval o).run Tryz.prog w = .ok (.value (.int .i64 (n : Int))) w:=by
 unfold execOp;simp only [ho,resolve,invoke,Sem.run_bind,Sem.run_pure,Result.andThen_ok,List.map_toArray,List.map_cons,List.map_nil,hx];simp [go_sem]
theorem exec_lenV {a : Act} {w : World} {o : Oper} {x : Operand} {p : Option Addr} {n c : Nat} (ho : o.op = .call { callee:=.builtin .len,args:=#[x],argTypes:=#[29] }) (hx : a.eval x = .slice p n c) : (execOp a.eval o).run Tryz.prog w = .ok (.value (.int .i64 (n : Int))) w:=by
 unfold execOp;simp only [ho,resolve,invoke,Sem.run_bind,Sem.run_pure,Result.andThen_ok,List.map_toArray,List.map_cons,List.map_nil,hx];simp [go_sem]
def bareF (v : V) : Bool:=decide (0 ≤ v.kind) && decide (v.kind ≤ 7) && bareV v && (!(v.kind == 6 || v.kind == 7) || decide (0 ≤ v.n))
def OneB (w W : World) (x : Array Value) : Prop:=W.heap[w.heap.size]? = some (.cells x 31 (0,0)) ∧ Below w.heap.size w W
theorem OneB.below {w W W' : World} {x : Array Value} (h : OneB w W x) (g : Below W.heap.size W W') : OneB w W' x:=⟨Kai g (Array.getElem?_eq_some_iff.1 h.1).1 h.1,Kaa h.2 g⟩
theorem OneB.start (w : World) (x : Array Value) : OneB w (w.alloc (.cells x 31)) x:=⟨heap_alloc_new w _,Kad _⟩
theorem bare_any {v : V} {w : World} {x : Array Value} (hx : VRd w v x) : Calls Tryz.prog 191 #[.agg x] w fun e w'=>e = .returned (.bool (bareF v)) ∧ Below w.heap.size w w':=by
 obtain ⟨pk,ck,pl,cl,rfl,_,hk1,hl1⟩:=hx.open
 cases v with
 | mk k b n t ks l =>
 simp only [V.kind,V.b,V.n,V.text,V.keys,V.list] at *
 have hR : bareF (.mk k b n t ks l) = (decide (0 ≤ k) && decide (k ≤ 7) && ((k == 1 || !b) && (k == 2 || k == 6 || k == 7 || n == 0) && (k == 3 || t.isEmpty) && (k == 5 || ks.isEmpty) && (k == 4 || k == 5 || l.isEmpty)) && (!(k == 6 || k == 7) || decide (0 ≤ n))):=rfl
 have hn0 : (n == 0) = !(decide (n ≠ 0)):=by by_cases h : n = 0 <;> simp [h]
 have ht0 : t.isEmpty = !(decide (t ≠ [])):=by cases t <;> simp
 have hk0 : ks.isEmpty = !(decide (0 < ks.length)):=by cases ks <;> simp
 have hl0 : l.isEmpty = !(decide (0 < l.length)):=by cases l <;> simp
 rw [hn0,ht0,hk0,hl0] at hR
 generalize bareF (.mk k b n t ks l) = R at hR ⊢
 have hT:=OneB.start w #[.int .i64 k,.bool b,.int .i64 n,.string (strB t),.slice pk ks.length ck,.slice pl l.length cl]
 have HT:=yh hT
 have HR:=yh hR
 clear hx hk1 hl1 hT hR hn0 ht0 hk0 hl0
 go_enter Tryz.func191,Tryz.ntmps191
 go_wp2
 have hT:=HT.out
 generalize w.alloc _ = W0 at *
 have hT0:=hT.below (Below.refl _ _).drew
 have hne : ∀ W : World,(binOp .neq 2 (.int .i64 n) (.int .i64 0)).run Tryz.prog W = .ok (.bool (decide (n ≠ 0))) W:=by
  intro W;by_cases h : n = 0 <;> simp [go_sem,h]
 have hgt : ∀ (m : Nat) (W : World),(binOp .gtr 3 (.int .i64 (m : Int)) (.int .i64 0)).run Tryz.prog W = .ok (.bool (decide (0 < m))) W:=by
  intro m W;simp [go_sem]
 refine Kah (fun W=>OneB w W #[.int .i64 k,.bool b,.int .i64 n,.string (strB t),.slice pk ks.length ck,.slice pl l.length cl]) (by kernel_rfl) hT0 (fun hU0=>?_)
 refine tk 0 8 (v:=.pointer (some ⟨w.heap.size,1,none⟩)) rfl rfl (fun W hW=>Kab rfl rfl (Kbw _ _ (by decide) W)) ?_;simp only [zP]
 refine tk 1 9 (v:=.bool b) rfl rfl (fun W hW=>Kaf rfl rfl (Kag (w:=W) Tryz.underlying4 rfl (Kac hW.1 rfl))) ?_;simp only [zP]
 refine tk 2 10 (v:=.pointer (some ⟨w.heap.size,2,none⟩)) rfl rfl (fun W hW=>Kab rfl rfl (Kbw _ _ (by decide) W)) ?_;simp only [zP]
 refine tk 3 11 (v:=.int .i64 n) rfl rfl (fun W hW=>Kaf rfl rfl (Kag (w:=W) Tryz.underlying2 rfl (Kac hW.1 rfl))) ?_;simp only [zP]
 refine tk 4 12 (v:=.bool (decide (n ≠ 0))) rfl rfl (fun W hW=>Kan rfl rfl rfl (hne W)) ?_;simp only [zP]
 refine tk 5 13 (v:=.pointer (some ⟨w.heap.size,3,none⟩)) rfl rfl (fun W hW=>Kab rfl rfl (Kbw _ _ (by decide) W)) ?_;simp only [zP]
 refine tk 6 14 (v:=.string (strB t)) rfl rfl (fun W hW=>Kaf rfl rfl (Kag (w:=W) Tryz.underlying9 rfl (Kac hW.1 rfl))) ?_;simp only [zP]
 refine tk 7 15 (v:=.bool (decide (t ≠ []))) rfl rfl (fun W hW=>Kcj rfl rfl rfl (run_neStr _ _ t [] W)) ?_;simp only [zP]
 refine tk 8 16 (v:=.pointer (some ⟨w.heap.size,4,none⟩)) rfl rfl (fun W hW=>Kab rfl rfl (Kbw _ _ (by decide) W)) ?_;simp only [zP]
 refine tk 9 17 (v:=.slice pk ks.length ck) rfl rfl (fun W hW=>Kaf rfl rfl (Kag (w:=W) Tryz.underlying26 rfl (Kac hW.1 rfl))) ?_;simp only [zP]
 refine tk 10 18 (v:=.int .i64 (ks.length : Int)) rfl rfl (fun W hW=>exec_lenS rfl rfl) ?_;simp only [zP]
 refine tk 11 19 (v:=.bool (decide (0 < ks.length))) rfl rfl (fun W hW=>Kan rfl rfl rfl (hgt _ W)) ?_;simp only [zP]
 refine tk 12 20 (v:=.pointer (some ⟨w.heap.size,5,none⟩)) rfl rfl (fun W hW=>Kab rfl rfl (Kbw _ _ (by decide) W)) ?_;simp only [zP]
 refine tk 13 21 (v:=.slice pl l.length cl) rfl rfl (fun W hW=>Kaf rfl rfl (Kag (w:=W) Tryz.underlying29 rfl (Kac hW.1 rfl))) ?_;simp only [zP]
 refine tk 14 22 (v:=.int .i64 (l.length : Int)) rfl rfl (fun W hW=>exec_lenV rfl rfl) ?_;simp only [zP]
 refine tk 15 23 (v:=.bool (decide (0 < l.length))) rfl rfl (fun W hW=>Kan rfl rfl rfl (hgt _ W)) ?_;simp only [zP]
 refine tk 16 3 (v:=.bool b) rfl rfl (fun W hW=>Kat rfl rfl) ?_;simp only [zP]
 refine tk 17 4 (v:=.bool (decide (n ≠ 0))) rfl rfl (fun W hW=>Kat rfl rfl) ?_;simp only [zP]
 refine tk 18 5 (v:=.bool (decide (t ≠ []))) rfl rfl (fun W hW=>Kat rfl rfl) ?_;simp only [zP]
 refine tk 19 6 (v:=.bool (decide (0 < ks.length))) rfl rfl (fun W hW=>Kat rfl rfl) ?_;simp only [zP]
 refine tk 20 7 (v:=.bool (decide (0 < l.length))) rfl rfl (fun W hW=>Kat rfl rfl) ?_;simp only [zP]
 refine done (by kernel_rfl) ?_ _
 have HF:=yh (And.intro HR.out (And.intro (Kac (o:=0) hU0.1 rfl) (And.intro (Kac (o:=2) hU0.1 rfl) hU0.2)))
 have q0:=HF.out.2.1
 have q2:=HF.out.2.2.1
 clear hT hT0 hU0 HT HR hgt hne
 generalize W0.drew = W1 at *
 revert HF
 generalize decide (n ≠ 0) = d2
 generalize decide (t ≠ []) = d3
 generalize decide (0 < ks.length) = d4
 generalize decide (0 < l.length) = d5
 intro HF
 by_cases hk : 0 ≤ k ∧ k ≤ 7
 ·have hk' : k = 0 ∨ k = 1 ∨ k = 2 ∨ k = 3 ∨ k = 4 ∨ k = 5 ∨ k = 6 ∨ k = 7:=by omega
  clear hk
  rcases hk' with rfl | rfl | rfl | rfl | rfl | rfl | rfl | rfl
  ·cases b <;> cases d2 <;> cases d3 <;> cases d4 <;> cases d5 <;> (go_wp2;go_ret;exact ⟨Kak (by rw [HF.out.1];rfl),HF.out.2.2.2⟩)
  ·cases d2 <;> cases d3 <;> cases d4 <;> cases d5 <;> (go_wp2;go_ret;exact ⟨Kak (by rw [HF.out.1];cases b <;> rfl),HF.out.2.2.2⟩)
  ·cases b <;> cases d3 <;> cases d4 <;> cases d5 <;> (go_wp2;go_ret;exact ⟨Kak (by rw [HF.out.1];cases d2 <;> rfl),HF.out.2.2.2⟩)
  ·cases b <;> cases d2 <;> cases d4 <;> cases d5 <;> (go_wp2;go_ret;exact ⟨Kak (by rw [HF.out.1];cases d3 <;> rfl),HF.out.2.2.2⟩)
  ·cases b <;> cases d2 <;> cases d3 <;> cases d4 <;> (go_wp2;go_ret;exact ⟨Kak (by rw [HF.out.1];cases d5 <;> rfl),HF.out.2.2.2⟩)
  ·cases b <;> cases d2 <;> cases d3 <;> (go_wp2;go_ret;exact ⟨Kak (by rw [HF.out.1];cases d4 <;> cases d5 <;> rfl),HF.out.2.2.2⟩)
  ·by_cases hn : n < 0
   ·have hd : decide (0 ≤ n) = false:=by simp;omega
    go_wp2
    go_ret
    exact ⟨Kak (by rw [HF.out.1,hd];simp),HF.out.2.2.2⟩
   ·have hd : decide (0 ≤ n) = true:=by simp;omega
    have hlt : decide (n < 0) = false:=by simp;omega
    cases b <;> cases d3 <;> cases d4 <;> cases d5 <;> (go_wp2;go_ret;exact ⟨Kak (by rw [HF.out.1,hd];cases d2 <;> rfl),HF.out.2.2.2⟩)
  ·by_cases hn : n < 0
   ·have hd : decide (0 ≤ n) = false:=by simp;omega
    go_wp2
    go_ret
    exact ⟨Kak (by rw [HF.out.1,hd];simp),HF.out.2.2.2⟩
   ·have hd : decide (0 ≤ n) = true:=by simp;omega
    have hlt : decide (n < 0) = false:=by simp;omega
    cases b <;> cases d3 <;> cases d4 <;> cases d5 <;> (go_wp2;go_ret;exact ⟨Kak (by rw [HF.out.1,hd];cases d2 <;> rfl),HF.out.2.2.2⟩)
 ·have e0 : (k == 0) = false:=by rw [beq_eq_false_iff_ne];omega
  have e1 : (k == 1) = false:=by rw [beq_eq_false_iff_ne];omega
  have e2 : (k == 2) = false:=by rw [beq_eq_false_iff_ne];omega
  have e3 : (k == 3) = false:=by rw [beq_eq_false_iff_ne];omega
  have e4 : (k == 4) = false:=by rw [beq_eq_false_iff_ne];omega
  have e5 : (k == 5) = false:=by rw [beq_eq_false_iff_ne];omega
  have e6 : (k == 6) = false:=by rw [beq_eq_false_iff_ne];omega
  have e7 : (k == 7) = false:=by rw [beq_eq_false_iff_ne];omega
  have hR : R = false:=by
   rw [HF.out.1]
   by_cases h0 : 0 ≤ k
   ·have : ¬ k ≤ 7:=fun h=>hk ⟨h0,h⟩
    simp [this]
   ·simp [h0]
  have HF2:=yh (And.intro hR HF.out.2.2.2)
  clear hR HF hk
  go_wp2
  go_ret
  exact ⟨Kak HF2.out.1.symm,HF2.out.2⟩
end Go.Proofs.YtihfnegakcghiaaGreatDoor
namespace Go.Proofs
open Go.Shelf
def Tryz.laysValid_ren : Go.Shelf.Ren:=⟨fun | 196=>109 | 259=>162 | n=>n,fun | 9=>9 | 4=>4 | 3=>3 | 5=>5 | 12=>12 | 119=>195 | 0=>0 | 46=>150 | 139=>198 | 138=>197 | 53=>193 | n=>n,fun | 3=>0 | 4=>1 | n=>n⟩
theorem Tryz.laysValid : Go.Proofs.Lays.n196 Tryz.prog Tryz.laysValid_ren:={
 mixed:=by kernel_rfl
 f196:=Tryz.func109.trans (congrArg some (by kernel_rfl))
 f259:=Tryz.func162.trans (congrArg some (by kernel_rfl))
 t0:=Tryz.underlying0
 a0:=Tryz.isAgg0
 z0:=Tryz.sizeOf0
 v0:=Tryz.zeroValue0
 t3:=Tryz.underlying3
 a3:=Tryz.isAgg3
 z3:=Tryz.sizeOf3
 v3:=Tryz.zeroValue3
 t4:=Tryz.underlying4
 a4:=Tryz.isAgg4
 z4:=Tryz.sizeOf4
 v4:=Tryz.zeroValue4
 t5:=Tryz.underlying5
 a5:=Tryz.isAgg5
 z5:=Tryz.sizeOf5
 v5:=Tryz.zeroValue5
 t9:=Tryz.underlying9
 a9:=Tryz.isAgg9
 z9:=Tryz.sizeOf9
 v9:=Tryz.zeroValue9
 t12:=Tryz.underlying12
 a12:=Tryz.isAgg12
 z12:=Tryz.sizeOf12
 v12:=Tryz.zeroValue12
 t46:=Tryz.underlying150
 a46:=Tryz.isAgg150
 z46:=Tryz.sizeOf150
 v46:=Tryz.zeroValue150
 t53:=Tryz.underlying193
 a53:=Tryz.isAgg193
 z53:=Tryz.sizeOf193
 v53:=Tryz.zeroValue193
 t119:=Tryz.underlying195
 a119:=Tryz.isAgg195
 z119:=Tryz.sizeOf195
 t138:=Tryz.underlying197
 a138:=Tryz.isAgg197
 z138:=Tryz.sizeOf197
 v138:=Tryz.zeroValue197
 t139:=Tryz.underlying198
 a139:=Tryz.isAgg198
 z139:=Tryz.sizeOf198
 v139:=Tryz.zeroValue198
 g3:=by kernel_rfl
 g4:=by kernel_rfl }
end Go.Proofs
namespace Go.Proofs.YtihfnegakcghiaaGreatDoor
open Go.RowKit
structure Env (w : World) : Prop where
 tabs : Lib.Utf8Tabs 0 1 w
 len : ∃ m,w.cell? ⟨2,0,none⟩ = some (.int .i64 m)
 size : 3 ≤ w.heap.size
theorem Env.below {w w' : World} (h : Env w) (g : Below 3 w w') : Env w':=by
 have cell : ∀ {b o : Nat} {v : Value},b < 3 → w.cell? ⟨b,o,none⟩ = some v → w'.cell? ⟨b,o,none⟩ = some v:=fun hb hc=>Kae g hb hc
 refine ⟨⟨fun c hc=>cell (by decide) (h.tabs.1 c hc),fun i hi=>⟨cell (by decide) (h.tabs.2 i hi).1,cell (by decide) (h.tabs.2 i hi).2⟩⟩,?_,Nat.le_trans h.size g.size⟩
 obtain ⟨m,hm⟩:=h.len
 exact ⟨m,cell (by decide) hm⟩
theorem Env.b {w w' : World} (h : Env w) (g : Below w.heap.size w w') : Env w':=h.below (g.mono h.size)
theorem valid_any {w : World} (hE : Env w) (l : List UInt8) (h : l.length ≤ 140737488355328) : Calls Tryz.prog 109 #[.string (strB l)] w fun e w'=>e = .returned (.bool (Lib.validD l)) ∧ Below w.heap.size w w' :=
 Any.utf8_ValidString Tryz.laysValid (strB l) w (by rw [strB_size];omega) hE.tabs
theorem less_eq : ∀ a b : List UInt8,Op.bytesLess a b = ltB a b:=by
 intro a
 induction a with
 | nil=>intro b;cases b <;> simp [Op.bytesLess,ltB,cmpB,cmpL]
 | cons x r ih =>
   intro b
   cases b with
   | nil=>simp [Op.bytesLess,ltB,cmpB,cmpL]
   | cons y s =>
     have:=ih s
     unfold ltB cmpB at *
     simp only [Op.bytesLess,cmpL,this]
     rcases Kbv (x.toNat : Int) (y.toNat : Int) with ⟨h,e⟩ | ⟨h,e⟩ | ⟨h,e⟩ <;> rw [e]
     ·have hx : x < y:=by rw [UInt8.lt_iff_toNat_lt];omega
      simp [hx]
     ·have hx : x = y:=UInt8.toNat_inj.1 (by omega)
      subst hx
      simp
     ·have hx : ¬ x < y:=by rw [UInt8.lt_iff_toNat_lt];omega
      have hne : x ≠ y:=fun e=>by subst e;omega
      simp [hx,hne]
theorem risesB_snoc2 : ∀ (x : List (List UInt8)) (a b : List UInt8),Ka1 (x ++ [a,b]) = (Ka1 (x ++ [a]) && ltB a b):=by
 intro x
 induction x with
 | nil=>intro a b;simp [Ka1]
 | cons y r ih =>
   intro a b
   cases r with
   | nil=>simp [Ka1]
   | cons z r => 
     have:=ih a b
     simp only [List.cons_append,Ka1] at this ⊢
     rw [this,Bool.and_assoc]
theorem Kdl {l : List (List UInt8)} {j : Nat} (h : j + 1 < l.length) : Ka1 (l.take (j + 2)) = (Ka1 (l.take (j + 1)) && ltB l[j] l[j + 1]):=by
 have e1 : l.take (j + 1) = l.take j ++ [l[j]]:=List.take_succ_eq_append_getElem (by omega)
 have e2 : l.take (j + 2) = l.take j ++ [l[j],l[j + 1]]:=by
  rw [show j + 2 = (j + 1) + 1 from rfl,List.take_succ_eq_append_getElem h,e1,List.append_assoc];rfl
 rw [e1,e2,risesB_snoc2]
theorem risesB_take {l : List (List UInt8)} (h : Ka1 l = true) : ∀ j,j ≤ l.length → Ka1 (l.take j) = true:=by
 intro j hj
 obtain ⟨d,hd⟩ : ∃ d,l.length = j + d:=⟨l.length - j,by omega⟩
 induction d generalizing j with
 | zero=>rw [List.take_of_length_le (by omega)];exact h
 | succ d ih =>
   have h1:=ih (j + 1) (by omega) (by omega)
   cases j with
   | zero=>simp [Ka1]
   | succ j =>
     rw [Kdl (by omega)] at h1
     exact (Bool.and_eq_true _ _ ▸ h1).1
theorem risesB_low {l : List (List UInt8)} {j : Nat} (h : ¬ 0 < j) : Ka1 (l.take (j + 1)) = true:=by
 obtain rfl : j = 0:=by omega
 cases l with
 | nil=>rfl
 | cons a r=>simp [Ka1]
theorem oneV_bare (u : List UInt8 → Bool) (v : V) : oneV u v = (bareF v && u v.text && (!(v.kind == 5) || v.keys.length == v.list.length) && (v.keys.all u && Ka1 v.keys)):=by
 unfold oneV bareF
 generalize decide (0 ≤ v.kind) = a1
 generalize decide (v.kind ≤ 7) = a2
 generalize bareV v = a3
 generalize (!(v.kind == 6 || v.kind == 7) || decide (0 ≤ v.n)) = a4
 generalize u v.text = a5
 generalize (!(v.kind == 5) || v.keys.length == v.list.length) = a6
 simp only [Bool.and_assoc]
theorem may_any {v : V} {w : World} {x : Array Value} (hE : Env w) (hx : VRd w v x) : Calls Tryz.prog 144 #[.agg x] w fun e w'=>e = .returned (.bool (oneV Lib.validD v)) ∧ Below w.heap.size w w':=by
 have hR:=oneV_bare Lib.validD v
 have hT:=OneB.start w x
 have hb1:=bare_any (hx.below hT.2)
 have hall : ∀ {W : World},Below w.heap.size w W → Calls Tryz.prog 109 #[.string (strB v.text)] W fun e w'=>e = .returned (.bool (Lib.validD v.text)) ∧ Below W.heap.size W w':=by
  obtain ⟨pk,ck,pl,cl,_,ht,_,_⟩:=hx.open
  exact fun hb=>valid_any (hE.b hb) v.text ht
 have hEb : ∀ {W : World},Below w.heap.size w W → Env W:=fun hb=>hE.b hb
 obtain ⟨pk,ck,pl,cl,rfl,_,hk1,hl1⟩:=hx.open
 cases v with
 | mk k b n t ks l =>
 simp only [V.kind,V.b,V.n,V.text,V.keys,V.list] at *
 generalize oneV Lib.validD (.mk k b n t ks l) = R at hR ⊢
 generalize bareF (.mk k b n t ks l) = R1 at hR hb1
 have z1 : (ks.length : Int) ≤ 140737488355328:=by have:=hk1.1;have:=hk1.2.1;omega
 generalize hX : (#[.int .i64 k,.bool b,.int .i64 n,.string (strB t),.slice pk ks.length ck,.slice pl l.length cl] : Array Value) = X at *
 have HT:=yh hT
 have HB:=yh hb1
 have HV:=yh (fun (W : World) (hb : Below w.heap.size w W)=>hall hb)
 have HE:=yh (fun (W : World) (hb : Below w.heap.size w W)=>hEb hb)
 have HK:=yh hk1
 clear hx hl1 hk1 hT hb1 hall hEb hE
 subst hX
 cases R1
 ·have HR:=yh hR
  clear hR
  go_enter Tryz.func144,Tryz.ntmps144
  go_wp2_with (first
   | (go_at_call 191;refine HB.out.mono ?_;rintro e w1 ⟨rfl,hb1⟩;have HT1:=yh (HT.out.below hb1);clear hb1))
  go_ret
  exact ⟨Kak (by rw [HR.out];rfl),HT1.out.2⟩
 have hV0:=HV.out
 generalize hr2 : Lib.validD t = R2 at hR hV0
 have HV0:=yh hV0
 clear hV0
 cases R2
 ·have HR:=yh hR
  clear hR
  go_enter Tryz.func144,Tryz.ntmps144
  go_wp2_with (first
   | (go_at_call 191;refine HB.out.mono ?_;rintro e w1 ⟨rfl,hb1⟩;have HT1:=yh (HT.out.below hb1);have p3:=Kac (o:=3) HT1.out.1 rfl;clear hb1)
   | (go_at_call 109;refine (HV0.out _ HT1.out.2).mono ?_;rintro e w2 ⟨rfl,hb2⟩;have HT2:=yh (HT1.out.below hb2);clear hb2))
  go_ret
  exact ⟨Kak (by rw [HR.out];rfl),HT2.out.2⟩
 by_cases h5 : k = 5 ∧ ks.length ≠ l.length
 ·obtain ⟨rfl,hne⟩:=h5
  have dl : ((ks.length : Int) != (l.length : Int)) = true:=by rw [bne_iff_ne];omega
  have HR:=yh (show R = false by rw [hR,beq_false_of_ne hne];simp)
  clear hR hne
  go_enter Tryz.func144,Tryz.ntmps144
  go_wp2_with (first
   | (go_at_call 191;refine HB.out.mono ?_;rintro e w1 ⟨rfl,hb1⟩;have HT1:=yh (HT.out.below hb1);have p3:=Kac (o:=3) HT1.out.1 rfl;clear hb1)
   | (go_at_call 109;refine (HV0.out _ HT1.out.2).mono ?_;rintro e w2 ⟨rfl,hb2⟩;have HT2:=yh (HT1.out.below hb2);have p0:=Kac (o:=0) HT2.out.1 rfl;have p4:=Kac (o:=4) HT2.out.1 rfl;have p5:=Kac (o:=5) HT2.out.1 rfl;clear hb2))
  go_ret
  exact ⟨Kak HR.out.symm,HT2.out.2⟩
 have hc : (!(k == 5) || ks.length == l.length) = true:=by
  by_cases e : k = 5
  ·have : ks.length = l.length:=Decidable.byContradiction fun h=>h5 ⟨e,h⟩
   simp [this]
  ·simp [e]
 have HR:=yh (show R = (ks.all Lib.validD && Ka1 ks) by rw [hR,hc];simp)
 have hk5 : (k == 5) = false ∨ (k = 5 ∧ ((ks.length : Int) != (l.length : Int)) = false):=by
  by_cases e : k = 5
  ·exact .inr ⟨e,by rw [bne_eq_false_iff_eq];have : ks.length = l.length:=Decidable.byContradiction fun h=>h5 ⟨e,h⟩;omega⟩
  ·exact .inl (by simpa using e)
 clear hR h5 hc hr2
 rcases hk5 with hk5 | ⟨rfl,hk5⟩
 ·go_enter Tryz.func144,Tryz.ntmps144
  go_wp2_with (first
   | (go_at_call 191;refine HB.out.mono ?_;rintro e w1 ⟨rfl,hb1⟩;have HT1:=yh (HT.out.below hb1);have p3:=Kac (o:=3) HT1.out.1 rfl;clear hb1)
   | (go_at_call 109;refine (HV0.out _ HT1.out.2).mono ?_;rintro e w2 ⟨rfl,hb2⟩;have HT2:=yh (HT1.out.below hb2);have p0:=Kac (o:=0) HT2.out.1 rfl;have p4:=Kac (o:=4) HT2.out.1 rfl;have p5:=Kac (o:=5) HT2.out.1 rfl;clear hb2))
  go_loopw [31] (fun i W=>∃ j : Nat,j ≤ ks.length ∧ i = .int .i64 (j : Int) ∧ Hid (OneB w W #[.int .i64 k,.bool b,.int .i64 n,.string (strB t),.slice pk ks.length ck,.slice pl l.length cl] ∧ (ks.take j).all Lib.validD = true ∧ Ka1 (ks.take j) = true)) (fun i _=>ks.length - (intOf i).toNat)
  case atStart=>exact ⟨0,Nat.zero_le _,rfl,yh ⟨HT2.out,rfl,rfl⟩⟩
  case round =>
   obtain ⟨j,hj,rfl,HJ⟩:=hrel
   by_cases hlt : j < ks.length
   ·have hlt1 : j + 1 ≤ ks.length:=hlt
    have hT:=HJ.out.1
    obtain ⟨bk,ok,rfl,q0,hsl⟩:=(HK.out.below hT.2).get hlt
    have hcall:=valid_any (HE.out wr hT.2) ks[j] hsl
    generalize hv : Lib.validD ks[j] = vj at hcall
    have hall1 : (ks.take (j + 1)).all Lib.validD = vj:=by
     rw [List.take_succ_eq_append_getElem hlt,List.all_append,HJ.out.2.1];simp [hv]
    cases vj with
    | false =>
      have hRf : R = false:=by
       rw [HR.out]
       have : ks.all Lib.validD = false:=by
        rw [List.all_eq_false];exact ⟨ks[j],List.getElem_mem hlt,by simp [hv]⟩
       rw [this];rfl
      have HC:=yh (And.intro hcall (And.intro hT.2 hRf))
      clear hcall hv hall1 hRf hT
      generalize ks[j] = s1 at *
      go_wp2_with (go_at_call 109;refine HC.out.1.mono ?_;rintro e w3 ⟨rfl,hb3⟩;have HB3:=yh hb3;clear hb3)
      go_ret
      exact ⟨Kak HC.out.2.2.symm,Kaa HC.out.2.1 HB3.out⟩
    | true =>
      by_cases h0 : 0 < j
      case neg =>
       have HC:=yh (And.intro hcall (And.intro hT hall1))
       clear hcall hv hall1 hT
       generalize ks[j] = s1 at *
       go_wp2_with (go_at_call 109;refine HC.out.1.mono ?_;rintro e w3 ⟨rfl,hb3⟩;have HB3:=yh hb3;clear hb3)
       go_roundw
       case rel=>exact ⟨j + 1,hlt1,by go_num,yh ⟨HC.out.2.1.below HB3.out,HC.out.2.2,risesB_low h0⟩⟩
       case measure=>simp [intOf];omega
      case pos =>
       obtain ⟨m,hm⟩ : ∃ m,j = m + 1:=⟨j - 1,by omega⟩
       have hmi : (j : Int) - 1 = (m : Int):=by omega
       have hmk : m < ks.length:=by omega
       obtain ⟨bk2,ok2,e2,q1,_⟩:=(HK.out.below hT.2).get hmk
       cases e2
       have hstep : Ka1 (ks.take (j + 1)) = ltB ks[m] ks[j]:=by
        have:=Kdl (l:=ks) (j:=m) (by omega)
        have h2:=HJ.out.2.2
        subst hm
        rw [this,h2,Bool.true_and]
       have hless : Op.bytesLess (strB ks[m]).toList (strB ks[j]).toList = ltB ks[m] ks[j]:=by rw [Kas,Kas];exact less_eq _ _
       generalize hlb : ltB ks[m] ks[j] = lb at hless hstep
       clear hm
       cases lb with
       | false =>
         have hRf : R = false:=by
          rw [HR.out]
          have : Ka1 ks = false:=by
           cases e : Ka1 ks with
           | false=>rfl
           | true=>have:=risesB_take e (j + 1) hlt1;rw [hstep] at this;cases this
          rw [this];simp
         have HC:=yh (And.intro hcall (And.intro hT (And.intro hRf q1)))
         clear hcall hv hall1 hT hRf hlb hstep q1
         generalize ks[j] = s1 at *
         generalize ks[m] = s2 at *
         go_wp2_with (go_at_call 109;refine HC.out.1.mono ?_;rintro e w3 ⟨rfl,hb3⟩;have HT3:=yh (HC.out.2.1.below hb3);have p4:=Kac (o:=4) HT3.out.1 rfl;have q1:=Kae hb3 (ltOf HC.out.2.2.2) HC.out.2.2.2;clear hb3)
         go_ret
         exact ⟨Kak HC.out.2.2.1.symm,HT3.out.2⟩
       | true =>
         have HC:=yh (And.intro hcall (And.intro hT (And.intro hall1 (And.intro hstep q1))))
         clear hcall hv hall1 hT hlb hstep q1
         generalize ks[j] = s1 at *
         generalize ks[m] = s2 at *
         go_wp2_with (go_at_call 109;refine HC.out.1.mono ?_;rintro e w3 ⟨rfl,hb3⟩;have HT3:=yh (HC.out.2.1.below hb3);have p4:=Kac (o:=4) HT3.out.1 rfl;have q1:=Kae hb3 (ltOf HC.out.2.2.2.2) HC.out.2.2.2.2;clear hb3)
         go_roundw
         case rel=>exact ⟨j + 1,hlt1,by go_num,yh ⟨HT3.out,HC.out.2.2.1,HC.out.2.2.2.1⟩⟩
         case measure=>simp [intOf];omega
   ·obtain rfl : j = ks.length:=by omega
    have hRt : R = true:=by
     have h:=HJ.out.2
     rw [List.take_length] at h
     rw [HR.out,h.1,h.2];rfl
    have HF:=yh (And.intro hRt HJ.out.1.2)
    clear hRt HJ
    go_wp2
    go_ret
    exact ⟨Kak HF.out.1.symm,HF.out.2⟩
 ·go_enter Tryz.func144,Tryz.ntmps144
  go_wp2_with (first
   | (go_at_call 191;refine HB.out.mono ?_;rintro e w1 ⟨rfl,hb1⟩;have HT1:=yh (HT.out.below hb1);have p3:=Kac (o:=3) HT1.out.1 rfl;clear hb1)
   | (go_at_call 109;refine (HV0.out _ HT1.out.2).mono ?_;rintro e w2 ⟨rfl,hb2⟩;have HT2:=yh (HT1.out.below hb2);have p0:=Kac (o:=0) HT2.out.1 rfl;have p4:=Kac (o:=4) HT2.out.1 rfl;have p5:=Kac (o:=5) HT2.out.1 rfl;clear hb2))
  go_loopw [31] (fun i W=>∃ j : Nat,j ≤ ks.length ∧ i = .int .i64 (j : Int) ∧ Hid (OneB w W #[.int .i64 5,.bool b,.int .i64 n,.string (strB t),.slice pk ks.length ck,.slice pl l.length cl] ∧ (ks.take j).all Lib.validD = true ∧ Ka1 (ks.take j) = true)) (fun i _=>ks.length - (intOf i).toNat)
  case atStart=>exact ⟨0,Nat.zero_le _,rfl,yh ⟨HT2.out,rfl,rfl⟩⟩
  case round =>
   obtain ⟨j,hj,rfl,HJ⟩:=hrel
   by_cases hlt : j < ks.length
   ·have hlt1 : j + 1 ≤ ks.length:=hlt
    have hT:=HJ.out.1
    obtain ⟨bk,ok,rfl,q0,hsl⟩:=(HK.out.below hT.2).get hlt
    have hcall:=valid_any (HE.out wr hT.2) ks[j] hsl
    generalize hv : Lib.validD ks[j] = vj at hcall
    have hall1 : (ks.take (j + 1)).all Lib.validD = vj:=by
     rw [List.take_succ_eq_append_getElem hlt,List.all_append,HJ.out.2.1];simp [hv]
    cases vj with
    | false =>
      have hRf : R = false:=by
       rw [HR.out]
       have : ks.all Lib.validD = false:=by
        rw [List.all_eq_false];exact ⟨ks[j],List.getElem_mem hlt,by simp [hv]⟩
       rw [this];rfl
      have HC:=yh (And.intro hcall (And.intro hT.2 hRf))
      clear hcall hv hall1 hRf hT
      generalize ks[j] = s1 at *
      go_wp2_with (go_at_call 109;refine HC.out.1.mono ?_;rintro e w3 ⟨rfl,hb3⟩;have HB3:=yh hb3;clear hb3)
      go_ret
      exact ⟨Kak HC.out.2.2.symm,Kaa HC.out.2.1 HB3.out⟩
    | true =>
      by_cases h0 : 0 < j
      case neg =>
       have HC:=yh (And.intro hcall (And.intro hT hall1))
       clear hcall hv hall1 hT
       generalize ks[j] = s1 at *
       go_wp2_with (go_at_call 109;refine HC.out.1.mono ?_;rintro e w3 ⟨rfl,hb3⟩;have HB3:=yh hb3;clear hb3)
       go_roundw
       case rel=>exact ⟨j + 1,hlt1,by go_num,yh ⟨HC.out.2.1.below HB3.out,HC.out.2.2,risesB_low h0⟩⟩
       case measure=>simp [intOf];omega
      case pos =>
       obtain ⟨m,hm⟩ : ∃ m,j = m + 1:=⟨j - 1,by omega⟩
       have hmi : (j : Int) - 1 = (m : Int):=by omega
       have hmk : m < ks.length:=by omega
       obtain ⟨bk2,ok2,e2,q1,_⟩:=(HK.out.below hT.2).get hmk
       cases e2
       have hstep : Ka1 (ks.take (j + 1)) = ltB ks[m] ks[j]:=by
        have:=Kdl (l:=ks) (j:=m) (by omega)
        have h2:=HJ.out.2.2
        subst hm
        rw [this,h2,Bool.true_and]
       have hless : Op.bytesLess (strB ks[m]).toList (strB ks[j]).toList = ltB ks[m] ks[j]:=by rw [Kas,Kas];exact less_eq _ _
       generalize hlb : ltB ks[m] ks[j] = lb at hless hstep
       clear hm
       cases lb with
       | false =>
         have hRf : R = false:=by
          rw [HR.out]
          have : Ka1 ks = false:=by
           cases e : Ka1 ks with
           | false=>rfl
           | true=>have:=risesB_take e (j + 1) hlt1;rw [hstep] at this;cases this
          rw [this];simp
         have HC:=yh (And.intro hcall (And.intro hT (And.intro hRf q1)))
         clear hcall hv hall1 hT hRf hlb hstep q1
         generalize ks[j] = s1 at *
         generalize ks[m] = s2 at *
         go_wp2_with (go_at_call 109;refine HC.out.1.mono ?_;rintro e w3 ⟨rfl,hb3⟩;have HT3:=yh (HC.out.2.1.below hb3);have p4:=Kac (o:=4) HT3.out.1 rfl;have q1:=Kae hb3 (ltOf HC.out.2.2.2) HC.out.2.2.2;clear hb3)
         go_ret
         exact ⟨Kak HC.out.2.2.1.symm,HT3.out.2⟩
       | true =>
         have HC:=yh (And.intro hcall (And.intro hT (And.intro hall1 (And.intro hstep q1))))
         clear hcall hv hall1 hT hlb hstep q1
         generalize ks[j] = s1 at *
         generalize ks[m] = s2 at *
         go_wp2_with (go_at_call 109;refine HC.out.1.mono ?_;rintro e w3 ⟨rfl,hb3⟩;have HT3:=yh (HC.out.2.1.below hb3);have p4:=Kac (o:=4) HT3.out.1 rfl;have q1:=Kae hb3 (ltOf HC.out.2.2.2.2) HC.out.2.2.2.2;clear hb3)
         go_roundw
         case rel=>exact ⟨j + 1,hlt1,by go_num,yh ⟨HT3.out,HC.out.2.2.1,HC.out.2.2.2.1⟩⟩
         case measure=>simp [intOf];omega
   ·obtain rfl : j = ks.length:=by omega
    have hRt : R = true:=by
     have h:=HJ.out.2
     rw [List.take_length] at h
     rw [HR.out,h.1,h.2];rfl
    have HF:=yh (And.intro hRt HJ.out.1.2)
    clear hRt HJ
    go_wp2
    go_ret
    exact ⟨Kak HF.out.1.symm,HF.out.2⟩
def Froz (w w' : World) : Prop:=∀ (g : Nat) (cs : Array Value) (t : TypeId) (fr : Nat × Nat),fr ≠ (0,0) → w.heap[g]? = some (.cells cs t fr) → w'.heap[g]? = some (.cells cs t fr)
theorem Froz.refl (w : World) : Froz w w:=fun _ _ _ _ _ h=>h
theorem Froz.trans {a b c : World} (h : Froz a b) (k : Froz b c) : Froz a c:=fun g cs t fr hf hg=>k g cs t fr hf (h g cs t fr hf hg)
theorem Froz.setCell {w w1 : World} (h : Froz w w1) {b o : Nat} {sp : Option Nat} {cs : Array Value} {t : TypeId} (hb : w1.heap[b]? = some (.cells cs t (0,0))) (v : Value) : Froz w (w1.setCell ⟨b,o,sp⟩ v):=by
 intro g cs' t' fr hf hg
 have h1:=h g cs' t' fr hf hg
 have hne : g ≠ b:=by
  rintro rfl
  rw [hb] at h1
  simp only [Option.some.injEq,Obj.cells.injEq] at h1
  exact hf h1.2.2.symm
 rw [Below.heap_setCell _ _ _ _ hne]
 exact h1
theorem Froz.alloc {w w1 : World} (h : Froz w w1) (o : Obj) : Froz w (w1.alloc o):=by
 intro g cs' t' fr hf hg
 have h1:=h g cs' t' fr hf hg
 have hlt:=(Array.getElem?_eq_some_iff.1 h1).1
 rw [Kaw,if_neg (by omega)]
 exact h1
theorem Froz.grown {w w1 w2 : World} {base n : Nat} {e : TypeId} {v : Value} {xs : List Value} (h : Froz w w1) (hown : w1.ownsRow base e 1 v n xs) (hb : ∀ k,k < w1.heap.size → v.ownBlock ≠ some k → w2.heap[k]? = w1.heap[k]?) : Froz w w2:=by
 intro g cs' t' fr hf hg
 have h1:=h g cs' t' fr hf hg
 have hlt:=(Array.getElem?_eq_some_iff.1 h1).1
 rw [hb g hlt,h1]
 intro e'
 rcases hown.2 with ⟨hv,_⟩ | ⟨g',cap,cur,hv,_,hh,_⟩
 ·rw [hv] at e';simp [Value.ownBlock] at e'
 ·rw [hv] at e'
  obtain rfl : g' = g:=by simpa [Value.ownBlock] using e'
  rw [h1] at hh
  simp only [Option.some.injEq,Obj.cells.injEq] at hh
  exact hf hh.2.2
def IterA {α : Type} (P : Program) (gf : FuncId) (lb : Array Value) (enc : α → Array Value) (Ok Done : List α → Prop) (Pre : World → Prop) : Prop :=
 ∀ (l : Nat) (J : List α → World → Prop) (Jx : World → Prop) (w : World),l < w.heap.size →
  (∀ pre W,J pre W → Pre W) →
  (∀ pre W W',J pre W → w.heap.size ≤ W.heap.size → Touch (fun b=>w.heap.size ≤ b) W W' → J pre W') →
  (∀ pre x W,Ok (pre ++ [x]) → J pre W → w.heap.size ≤ W.heap.size → Yields P l (enc x) W (fun e W' =>
    (∀ b,w.heap.size ≤ b → b < W.heap.size → W'.heap[b]? = W.heap[b]?) ∧ W.heap.size ≤ W'.heap.size ∧
    ((e = .returned (.bool true) ∧ J (pre ++ [x]) W') ∨ (e = .returned (.bool false) ∧ Jx W')))) →
  J [] w →
  CallsIn FW 0 P gf (#[.func (.yield l) #[] #[]] ++ lb) w (fun e W'=>e = .returned (.tuple #[]) ∧ Ended Done J Jx W')
theorem wp_rangeA {α : Type} {P : Program} {g : Operand} {ps : Array Tmp} {assign body : Code} {Q : Exit → Act → World → Prop} {a : Act} {w : World}
 {gf : FuncId} {lb : Array Value} {enc : α → Array Value} {Ok Done : List α → Prop} {Pre : World → Prop} {gfn : Func}
 (hg : a.eval g = .func (.func gf) #[] lb) (hfn : P.funcs[gf]? = some gfn) (hbody : gfn.body.isSome = true) (hname : (gfn.name == "runtime.NumGoroutine") = false)
 (hit : IterA P gf lb enc Ok Done Pre) (henc : ∀ x,(enc x).size = ps.size)
 (I : List α → World → Prop) (Ix : Code → World → Prop)
 (S : Nat → Prop) (hS : ∀ b,S b → b < w.heap.size)
 (h0 : ∀ W,Below w.heap.size w W → w.heap.size + 2 ≤ W.heap.size → I [] W)
 (hpre : ∀ pre W,I pre W → Pre W)
 (hkeep : ∀ pre W W',I pre W → w.heap.size + 2 ≤ W.heap.size → Touch (fun b=>w.heap.size + 2 ≤ b) W W' → I pre W')
 (hput : ∀ pre W o,I pre W → I pre (W.putObj (w.heap.size + 1) o))
 (hputx : ∀ c W o,Ix c W → Ix c (W.putObj (w.heap.size + 1) o))
 (hround : ∀ (r r' : Obj) (pre : List α) (x : α) (W : World),Ok (pre ++ [x]) → I pre W → w.heap.size + 2 ≤ W.heap.size → W.heap[w.heap.size + 1]? = some r →
   assign.wpIn (FR (w.heap.size + 1)) 0 P (Exit.then (fun a₁ w₁=>Mid (w.heap.size + 1) r r' W w₁ fun w₂ =>
    body.wpIn (FR (w.heap.size + 1)) 0 P (roundEnd (fun W'=>Over S w₂ W' ∧ I (pre ++ [x]) W') (fun c W'=>Over S w₂ W' ∧ Ix c W')) a₁ w₂) (fun _ _ _=>False))
    { tmps:=(ps.zip (enc x)).foldl (fun tmps (t,a)=>tmps.setIfInBounds t a) a.tmps,defers:=[] } W)
 (hdone : ∀ xs W,Done xs → I xs W → W.heap[w.heap.size]? = some (.deferred (some [])) → Q .normal { a with defers:={ target:=.collected w.heap.size,args:=#[] } :: a.defers } W)
 (hstop : ∀ c W,Ix c W → W.heap[w.heap.size]? = some (.deferred (some [])) → c.wp P Q { a with defers:={ target:=.collected w.heap.size,args:=#[] } :: a.defers } W) :
 (Code.rangeFunc g ps assign body).wp P Q a w:=by
 refine (wpIn_wide (n:=0)).1 (wpIn_rangeFunc fun fn _=>?_)
 have hD0 : ∀ o,((w.alloc (.deferred (some []))).alloc o).heap[w.heap.size]? = some (.deferred (some [])):=fun o=>by
  rw [Below.heap_alloc _ _ _ (by simp)];exact heap_alloc_new w _
 have hl0 : ∀ o,((w.alloc (.deferred (some []))).alloc o).heap[w.heap.size + 1]? = some o:=fun o=>by
  have:=heap_alloc_new (w.alloc (.deferred (some []))) o;simpa using this
 let w₁:=(w.alloc (.deferred (some []))).alloc (recOf fn a.tmps ps assign body w.heap.size .ready none)
 have hsz : w₁.heap.size = w.heap.size + 2:=by simp [w₁]
 refine ⟨_,_,w₁,{ target:=.fn (.func gf) lb,args:=#[.func (.yield (w.heap.size + 1)) #[] #[]] },w₁,gf,#[.func (.yield (w.heap.size + 1)) #[] #[]] ++ lb,w₁,run_enterLoop,?_,fun _ _=>trivial,?_,(fun h=>by simp [Fence.wide] at h),?_⟩
 ·have hy : a.eval (.const (.func (.yield (w.heap.size + 1)) #[] #[])) = .func (.yield (w.heap.size + 1)) #[] #[]:=rfl
  simp only [resolve,hg,hy,List.map_toArray,List.map_cons,List.map_nil]
  rfl
 ·simp only [invoke];exact Kb2 hfn hbody hname _ _
 ·let J : List α → World → Prop:=fun pre W=>I pre W ∧ W.heap[w.heap.size]? = some (.deferred (some [])) ∧ W.heap[w.heap.size + 1]? = some (recOf fn a.tmps ps assign body w.heap.size .ready none)
  let Jx : World → Prop:=fun W=>∃ c,Ix c W ∧ W.heap[w.heap.size]? = some (.deferred (some [])) ∧ W.heap[w.heap.size + 1]? = some (recOf fn a.tmps ps assign body w.heap.size .done (some c))
  have hcall:=hit (w.heap.size + 1) J Jx w₁ (by omega) (fun pre W h=>hpre pre W h.1) ?_ ?_ ?_
  ·have hq : CallsIn FW (0 - 1) P gf (#[.func (.yield (w.heap.size + 1)) #[] #[]] ++ lb) w₁ (rangePost FW 0 P (w.heap.size + 1) Q { a with defers:=[{ target:=.collected w.heap.size,args:=#[] }] ++ a.defers }):=by
    refine ⟨hcall.1,fun cs hr=>?_⟩
    obtain ⟨e,w',fr,⟨he,hJ⟩,rest⟩:=hcall.2 cs hr
    subst he
    refine ⟨_,w',fr,?_,rest⟩
    rcases hJ with ⟨xs,hx,hI,hD,hl⟩ | ⟨c,hI,hD,hl⟩
    ·refine ⟨none,_,Kdj (by simp) hl,?_⟩
     refine hdone xs _ hx (hput _ _ _ hI) ?_
     rw [World.putObj_heap_other (by omega)];exact hD
    ·refine ⟨some c,_,Kdj (by simp) hl,?_⟩
     refine (wpIn_wide (n:=0)).2 (hstop c _ (hputx _ _ _ hI) ?_)
     rw [World.putObj_heap_other (by omega)];exact hD
   exact hq
  ·rintro pre W W' ⟨hI,hD,hl⟩ hs hk
   rw [hsz] at hk hs
   exact ⟨hkeep pre W W' hI hs hk,hk.heap hD (by omega),hk.heap hl (by omega)⟩
  ·rintro pre x W hok ⟨hI,hD,hl⟩ hs
   rw [hsz] at hs
   refine ⟨_,_,_,_,run_yield (henc x) hl,?_⟩
   refine roundIn_of_wpIn trivial ?_
   have hr:=hround _ (recOf fn a.tmps ps assign body w.heap.size .busy none) pre x W hok hI hs hl
   intro b k' cs hb hF hroom
   obtain ⟨e,a',w',hq,harr⟩:=hr b k' cs hb hF hroom
   refine ⟨e,a',w',?_,harr⟩
   cases e with
   | normal =>
     obtain ⟨htouch,hl1,hbd⟩:=hq
     have hD1:=htouch.heap hD (by simp)
     refine ⟨_,run_beginRound hl1,?_⟩
     have hl2 : (w'.putObj (w.heap.size + 1) (recOf fn a.tmps ps assign body w.heap.size .busy none)).heap[w.heap.size + 1]? = some (recOf fn a.tmps ps assign body w.heap.size .busy none) :=
      Ka8 hl1
     have hD2 : (w'.putObj (w.heap.size + 1) (recOf fn a.tmps ps assign body w.heap.size .busy none)).heap[w.heap.size]? = some (.deferred (some [])) :=
      (World.putObj_heap_other (by omega)).trans hD1
     have hsz2 : W.heap.size ≤ (w'.putObj (w.heap.size + 1) (recOf fn a.tmps ps assign body w.heap.size .busy none)).heap.size:=by simpa using htouch.size
     have hown2 : ∀ b,w.heap.size + 2 ≤ b → b < W.heap.size → (w'.putObj (w.heap.size + 1) (recOf fn a.tmps ps assign body w.heap.size .busy none)).heap[b]? = W.heap[b]?:=fun b h1 h2 =>
      (World.putObj_heap_other (by omega)).trans (htouch.block b (by omega) (by simp))
     have hb2:=hbd _ rfl
     generalize w'.putObj (w.heap.size + 1) (recOf fn a.tmps ps assign body w.heap.size .busy none) = w₂ at *
     intro b k' cs hb hF hroom
     obtain ⟨e,a',w'',hq,harr⟩:=hb2 b k' cs hb hF hroom
     refine ⟨e,a',w'',?_,harr⟩
     have both : ∀ W',Over S w₂ W' → W'.heap[w.heap.size + 1]? = some (recOf fn a.tmps ps assign body w.heap.size .busy none) ∧ W'.heap[w.heap.size]? = some (.deferred (some [])) ∧
      W.heap.size ≤ W'.heap.size ∧ ∀ b,w.heap.size + 2 ≤ b → b < W.heap.size → W'.heap[b]? = W.heap[b]?:=fun W' ho =>
      ⟨ho.heap hl2 (fun h=>by have:=hS _ h;omega),ho.heap hD2 (fun h=>by have:=hS _ h;omega),Nat.le_trans hsz2 ho.size,
        fun b h1 h2=>(ho.block b (by omega) (fun h=>by have:=hS _ h;omega)).trans (hown2 b h1 h2)⟩
     have leave : ∀ (c : Code) (W' : World),(Over S w₂ W' ∧ Ix c W') →
      ∃ v w₄,(Instr.endRound (w.heap.size + 1) (some c)).run P W' = .ok v w₄ ∧
       (∀ b,w₁.heap.size ≤ b → b < W.heap.size → w₄.heap[b]? = W.heap[b]?) ∧ W.heap.size ≤ w₄.heap.size ∧ ((Ending.returned v = .returned (.bool true) ∧ J (pre ++ [x]) w₄) ∨ (Ending.returned v = .returned (.bool false) ∧ Jx w₄)):=by
      rintro c W' ⟨ho,h1⟩
      obtain ⟨hl3,hD3,h2,h3⟩:=both W' ho
      refine ⟨_,_,Kcw (some c) hl3,fun b hb1 hb2=>?_,by simpa using h2,.inr ⟨rfl,c,hputx _ _ _ h1,?_,Ka8 hl3⟩⟩
      ·rw [hsz] at hb1
       rw [World.putObj_heap_other (by omega)];exact h3 b hb1 hb2
      ·rw [World.putObj_heap_other (by omega)];exact hD3
     cases e with
     | normal =>
       obtain ⟨ho,h1⟩:=hq
       obtain ⟨hl3,hD3,h2,h3⟩:=both w'' ho
       refine ⟨_,_,Kcw none hl3,fun b hb1 hb2=>?_,by simpa using h2,.inl ⟨rfl,hput _ _ _ h1,?_,Ka8 hl3⟩⟩
       ·rw [hsz] at hb1
        rw [World.putObj_heap_other (by omega)];exact h3 b hb1 hb2
       ·rw [World.putObj_heap_other (by omega)];exact hD3
     | ret=>exact leave _ _ hq
     | exit id=>exact leave _ _ hq
     | goto t=>exact leave _ _ hq
     | panic c=>exact hq.elim
     | outgrown=>exact hq.elim
   | exit id=>exact hq.elim
   | goto t=>exact hq.elim
   | ret=>exact hq.elim
   | panic c=>exact hq.elim
   | outgrown=>exact hq.elim
  ·refine ⟨h0 _ ?_ (by omega),hD0 _,hl0 _⟩
   exact ((Below.refl _ _).alloc (Nat.le_refl _) _).alloc (by simp) _
section
variable {P : Program} {ops : Array Oper} {a : Act} {w w' : World} {o : Oper} {v : Value} {rest : List Oper}
theorem yield_region {id : Nat} {l : List Oper} {Q : Exit → Act → World → Prop} (h : wpListIn FW 0 P l.toArray (Only (Q .normal)) l a w) : (Code.region id l.toArray false).wp P Q a w:=by
 refine (wpIn_wide (n:=0)).1 ?_
 have h2:=wpIn_region_lit (F:=FW) (n:=0) (id:=id) h
 intro b k cs h3 h4 h5
 obtain ⟨e,a',w',hq,harr⟩:=h2 b k cs h3 h4 h5
 exact ⟨e,a',w',by cases e <;> first | exact hq | exact hq.elim,harr⟩
theorem listYield {l : Nat} {fn : FuncId} {tmps : Array Value} {assign body : Code} {K : Act → World → Prop} (hg : o.guard = none) (hd : ∀ c,o.op ≠ .defer c) (hx : (execOp a.eval o).run P w = .ok (.round l fn tmps assign body) w)
 (h : RoundIn FW 0 P l fn tmps assign body w fun e w'=>∃ v,e = .returned v ∧ wpListIn FW 0 P ops (Only K) rest (a.put o.dst v) w') : wpListIn FW 0 P ops (Only K) (o :: rest) a w :=
 wpListIn_plain hg fun K' hK=>by
  refine ⟨fun f _=>trivial,?_⟩
  rw [Oper.semAt_eq _ _ _ hd,hx]
  refine ⟨fun h=>by simp [Fence.wide] at h,h.mono ?_⟩
  rintro e w' ⟨v,rfl,hk⟩
  exact hK _ _ hk
theorem listRun {K : Act → World → Prop} (hg : o.guard = none) (hd : ∀ c,o.op ≠ .defer c) (hr : (execOp a.eval o).run P w = .ok (.value v) w') (h : wpListIn FW 0 P ops (Only K) rest (a.put o.dst v) w') : wpListIn FW 0 P ops (Only K) (o :: rest) a w :=
 wpListIn_run (fun _=>trivial) hg hd hr h
end
def OwnsP (w : World) (P : Nat → Prop) (e : TypeId) (size : Nat) (v : Value) (n : Nat) (xs : List Value) : Prop:=w.ownsRow 0 e size v n xs ∧ ∀ g,v.ownBlock = some g → P g
section
variable {w w' : World} {P P' : Nat → Prop} {e : TypeId} {size : Nat} {v : Value} {n : Nat} {xs : List Value}
theorem OwnsP.keep (h : OwnsP w P e size v n xs) (hk : ∀ b,P b → b < w.heap.size → w'.heap[b]? = w.heap[b]?) : OwnsP w' P e size v n xs :=
 ⟨Kb3 h.1 fun g hg=>hk g (h.2 g hg) (h.1.lt g hg).2,h.2⟩
theorem OwnsP.imp (h : OwnsP w P e size v n xs) (hp : ∀ b,b < w.heap.size → P b → P' b) : OwnsP w P' e size v n xs:=⟨h.1,fun g hg=>hp g (h.1.lt g hg).2 (h.2 g hg)⟩
theorem OwnsP.of_base {base : Nat} (h : w.ownsRow base e size v n xs) : OwnsP w (fun b=>base ≤ b) e size v n xs:=by
 refine ⟨⟨h.1,?_⟩,fun g hg=>(h.lt g hg).1⟩
 rcases h.2 with hn | ⟨g,cap,cur,rfl,h1,rest⟩
 ·exact .inl hn
 ·exact .inr ⟨g,cap,cur,rfl,Nat.zero_le _,rest⟩
end
mutual
def VOwn (w : World) (P : Nat → Prop) : V → Array Value → Prop
 | .mk k b n t ks l,cs=>∃ vk vl xs,cs = #[.int .i64 k,.bool b,.int .i64 n,.string (strB t),vk,vl] ∧ OwnsP w P 9 1 vk ks.length (ks.map strV) ∧ OwnsP w P 31 6 vl l.length (xs.flatMap Array.toList) ∧ VOwns w P l xs
def VOwns (w : World) (P : Nat → Prop) : List V → List (Array Value) → Prop
 | [],xs=>xs = []
 | v :: r,xs=>∃ x q,xs = x :: q ∧ VOwn w P v x ∧ VOwns w P r q
end
def LOwn (w : World) (P : Nat → Prop) (vl : Value) (l : List V) : Prop:=∃ xs,OwnsP w P 31 6 vl l.length (xs.flatMap Array.toList) ∧ VOwns w P l xs
theorem Kcf {w : World} {P : Nat → Prop} {k : Int} {b : Bool} {n : Int} {t : List UInt8} {ks : List (List UInt8)} {l : List V} {cs : Array Value} : VOwn w P (.mk k b n t ks l) cs ↔
 ∃ vk vl,cs = #[.int .i64 k,.bool b,.int .i64 n,.string (strB t),vk,vl] ∧ OwnsP w P 9 1 vk ks.length (ks.map strV) ∧ LOwn w P vl l:=by
 rw [VOwn]
 constructor
 ·rintro ⟨vk,vl,xs,h1,h2,h3,h4⟩;exact ⟨vk,vl,h1,h2,xs,h3,h4⟩
 ·rintro ⟨vk,vl,h1,h2,xs,h3,h4⟩;exact ⟨vk,vl,xs,h1,h2,h3,h4⟩
theorem VOwns_snoc {w : World} {P : Nat → Prop} : ∀ {l : List V} {xs : List (Array Value)} {v : V} {x : Array Value},VOwns w P l xs → VOwn w P v x → VOwns w P (l ++ [v]) (xs ++ [x]):=by
 intro l
 induction l with
 | nil =>
   intro xs v x h hv
   rw [VOwns] at h;subst h
   exact ⟨x,[],rfl,hv,rfl⟩
 | cons a r ih =>
   intro xs v x h hv
   obtain ⟨y,q,rfl,h1,h2⟩:=h
   exact ⟨y,q ++ [x],rfl,h1,ih h2 hv⟩
theorem VOwns_get {w : World} {P : Nat → Prop} : ∀ {l : List V} {xs : List (Array Value)},VOwns w P l xs → ∀ (j : Nat) (v : V),l[j]? = some v → ∃ x,xs[j]? = some x ∧ VOwn w P v x:=by
 intro l
 induction l with
 | nil=>intro xs _ j v hv;simp at hv
 | cons a r ih =>
   intro xs h j v hv
   obtain ⟨y,q,rfl,h1,h2⟩:=h
   cases j with
   | zero=>simp only [List.getElem?_cons_zero,Option.some.injEq] at hv;subst hv;exact ⟨y,rfl,h1⟩
   | succ j=>exact ih h2 j v (by simpa using hv)
theorem VOwn.size6 {w : World} {P : Nat → Prop} {v : V} {x : Array Value} (h : VOwn w P v x) : x.size = 6:=by
 cases v;obtain ⟨vk,vl,rfl,_⟩:=Kcf.1 h;rfl
theorem VOwn.keep {w w' : World} {P : Nat → Prop} (hk : ∀ b,P b → b < w.heap.size → w'.heap[b]? = w.heap[b]?) : ∀ {v : V} {x : Array Value},VOwn w P v x → VOwn w' P v x:=by
 intro v
 refine V.ind (P:=fun v=>∀ {x : Array Value},VOwn w P v x → VOwn w' P v x) (fun k b n t ks l ih x h=>?_) v
 obtain ⟨vk,vl,e,h1,xs,h2,h3⟩:=Kcf.1 h
 refine Kcf.2 ⟨vk,vl,e,h1.keep hk,xs,h2.keep hk,?_⟩
 clear h h1 h2 e
 induction l generalizing xs with
 | nil=>exact h3
 | cons a r ihr =>
   obtain ⟨y,q,rfl,g1,g2⟩:=h3
   exact ⟨y,q,rfl,ih a (by simp) g1,ihr (fun v hv=>ih v (by simp [hv])) q g2⟩
theorem VOwns.keep {w w' : World} {P : Nat → Prop} (hk : ∀ b,P b → b < w.heap.size → w'.heap[b]? = w.heap[b]?) : ∀ {l : List V} {xs : List (Array Value)},VOwns w P l xs → VOwns w' P l xs:=by
 intro l
 induction l with
 | nil=>intro xs h;exact h
 | cons a r ih =>
   intro xs h
   obtain ⟨y,q,rfl,g1,g2⟩:=h
   exact ⟨y,q,rfl,g1.keep hk,ih g2⟩
theorem VOwn.below {w w' : World} {P : Nat → Prop} {v : V} {x : Array Value} (h : VOwn w P v x) (g : Below w.heap.size w w') : VOwn w' P v x:=h.keep fun b _ hb=>g.block b hb
theorem VOwns.below {w w' : World} {P : Nat → Prop} {l : List V} {xs : List (Array Value)} (h : VOwns w P l xs) (g : Below w.heap.size w w') : VOwns w' P l xs:=h.keep fun b _ hb=>g.block b hb
theorem LOwn.below {w w' : World} {P : Nat → Prop} {vl : Value} {l : List V} (h : LOwn w P vl l) (g : Below w.heap.size w w') : LOwn w' P vl l:=by
 obtain ⟨xs,h1,h2⟩:=h
 exact ⟨xs,h1.keep fun b _ hb=>g.block b hb,h2.below g⟩
theorem VOwn.imp {w : World} {P P' : Nat → Prop} (hp : ∀ b,b < w.heap.size → P b → P' b) : ∀ {v : V} {x : Array Value},VOwn w P v x → VOwn w P' v x:=by
 intro v
 refine V.ind (P:=fun v=>∀ {x : Array Value},VOwn w P v x → VOwn w P' v x) (fun k b n t ks l ih x h=>?_) v
 obtain ⟨vk,vl,e,h1,xs,h2,h3⟩:=Kcf.1 h
 refine Kcf.2 ⟨vk,vl,e,h1.imp hp,xs,h2.imp hp,?_⟩
 clear h h1 h2 e
 induction l generalizing xs with
 | nil=>exact h3
 | cons a r ihr =>
   obtain ⟨y,q,rfl,g1,g2⟩:=h3
   exact ⟨y,q,rfl,ih a (by simp) g1,ihr (fun v hv=>ih v (by simp [hv])) q g2⟩
theorem VOwns.imp {w : World} {P P' : Nat → Prop} (hp : ∀ b,b < w.heap.size → P b → P' b) : ∀ {l : List V} {xs : List (Array Value)},VOwns w P l xs → VOwns w P' l xs:=by
 intro l
 induction l with
 | nil=>intro xs h;exact h
 | cons a r ih =>
   intro xs h
   obtain ⟨y,q,rfl,g1,g2⟩:=h
   exact ⟨y,q,rfl,g1.imp hp,ih g2⟩
theorem LOwn.imp {w : World} {P P' : Nat → Prop} (hp : ∀ b,b < w.heap.size → P b → P' b) {vl : Value} {l : List V} (h : LOwn w P vl l) : LOwn w P' vl l:=by
 obtain ⟨xs,h1,h2⟩:=h
 exact ⟨xs,h1.imp hp,h2.imp hp⟩
theorem Kcu {w : World} {P : Nat → Prop} {v : Value} {l : List (List UInt8)} (h : OwnsP w P 9 1 v l.length (l.map strV)) (h1 : l.length ≤ 140737488355328) (h2 : ∀ s ∈ l,s.length ≤ 140737488355328) : ∃ p c,v = .slice p l.length c ∧ RdS w p c l:=by
 have hc:=fun g=>h.1.cells (g:=g)
 rcases h.1.2 with ⟨rfl,h0⟩ | ⟨g,cap,cur,rfl,_,hg,hnc,hcm,_⟩
 ·have : l = []:=List.eq_nil_of_length_eq_zero h0
  subst this
  exact ⟨none,0,rfl,Nat.le_refl _,by simp,fun _=>rfl,h2,fun ad h=>by cases h⟩
 ·refine ⟨some ⟨g,0,none⟩,cap,rfl,hnc,⟨h1,by unfold maxLen at hcm;omega⟩,fun h=>(by cases h),h2,fun ad had=>?_⟩
  cases had
  refine ⟨fun _=>rfl,fun i s hs=>?_⟩
  have:=hc g rfl i (strV s) (by simp [hs])
  rw [Kap] at this
  simpa [strV] using this
theorem flat_six {xs : List (Array Value)} (h6 : ∀ x ∈ xs,x.size = 6) : ∀ (j : Nat) (x : Array Value),xs[j]? = some x → ∀ i,i < 6 → (xs.flatMap Array.toList)[j * 6 + i]? = x[i]?:=by
 induction xs with
 | nil=>intro j x h;simp at h
 | cons a r ih =>
   intro j x h i hi
   have ha:=h6 a (by simp)
   rw [List.flatMap_cons]
   cases j with
   | zero =>
     simp only [List.getElem?_cons_zero,Option.some.injEq] at h
     subst h
     rw [Nat.zero_mul,Nat.zero_add,List.getElem?_append_left (by simp [ha,hi])]
     simp
   | succ j =>
     have hj : a.toList.length ≤ (j + 1) * 6 + i:=by simp [ha];omega
     rw [List.getElem?_append_right hj]
     have e : (j + 1) * 6 + i - a.toList.length = j * 6 + i:=by simp [ha];omega
     rw [e]
     exact ih (fun x hx=>h6 x (by simp [hx])) j x (by simpa using h) i hi
theorem VOwns.six {w : World} {P : Nat → Prop} : ∀ {l : List V} {xs : List (Array Value)},VOwns w P l xs → ∀ x ∈ xs,x.size = 6:=by
 intro l
 induction l with
 | nil=>intro xs h;rw [VOwns] at h;subst h;simp
 | cons a r ih =>
   intro xs h x hx
   obtain ⟨y,q,rfl,g1,g2⟩:=h
   rcases List.mem_cons.1 hx with rfl | hx
   ·exact g1.size6
   ·exact ih g2 x hx
theorem VOwn.rd {w : World} {P : Nat → Prop} : ∀ {v : V} {x : Array Value},VOwn w P v x → totV v ≤ 1100000 → VRd w v x:=by
 intro v
 refine V.ind (P:=fun v=>∀ {x : Array Value},VOwn w P v x → totV v ≤ 1100000 → VRd w v x) (fun k b n t ks l ih x h ht=>?_) v
 rw [Kdf] at ht
 obtain ⟨vk,vl,rfl,h1,xs,h2,h3⟩:=Kcf.1 h
 obtain ⟨pk,ck,rfl,hk⟩:=Kcu h1 (by omega) (fun s hs=>by have:=sum_mem hs;omega)
 have hlen:=Kcy l
 have h6:=h3.six
 have hc:=fun g=>h2.1.cells (g:=g)
 have hget:=VOwns_get h3
 rcases h2.1.2 with ⟨rfl,h0⟩ | ⟨g,cap,cur,rfl,_,hg,hnc,hcm,_⟩
 ·have : l = []:=List.eq_nil_of_length_eq_zero h0
  subst this
  exact Kb0.2 ⟨pk,ck,none,0,rfl,by omega,hk,⟨Nat.le_refl _,by simp,fun _=>rfl⟩,fun ad h=>by cases h⟩
 ·refine Kb0.2 ⟨pk,ck,some ⟨g,0,none⟩,cap,rfl,by omega,hk,⟨hnc,⟨by omega,by unfold maxLen at hcm;omega⟩,fun h=>by cases h⟩,fun ad had=>?_⟩
  cases had
  refine ⟨fun _=>rfl,fun j v hv=>?_⟩
  obtain ⟨x,hx,hown⟩:=hget j v hv
  have hr:=ih v (List.mem_of_getElem? hv) hown (by have:=totVs_mem (List.mem_of_getElem? hv);omega)
  obtain ⟨pk2,ck2,pl2,cl2,rfl,_⟩:=hr.open
  have cell : ∀ i u,i < 6 → (#[Value.int .i64 v.kind,.bool v.b,.int .i64 v.n,.string (strB v.text),.slice pk2 v.keys.length ck2,.slice pl2 v.list.length cl2] : Array Value)[i]? = some u → w.cell? ⟨g,0 + j * 6 + i,none⟩ = some u:=by
   intro i u hi hu
   have:=hc g rfl (j * 6 + i) u (by rw [flat_six h6 j _ hx i hi];exact hu)
   rw [Kap] at this
   rw [Nat.zero_add] at this ⊢
   exact this
  exact ⟨_,⟨_,_,_,_,_,_,rfl,cell 0 _ (by omega) rfl,cell 1 _ (by omega) rfl,cell 2 _ (by omega) rfl,cell 3 _ (by omega) rfl,cell 4 _ (by omega) rfl,cell 5 _ (by omega) rfl⟩,hr⟩
theorem LOwn.rd {w : World} {P : Nat → Prop} {vl : Value} {l : List V} (h : LOwn w P vl l) (ht : totVs l ≤ 900000) : ∃ p c,vl = .slice p l.length c ∧ LRd w p c l:=by
 have h2 : VOwn w P (.mk 0 false 0 [] [] l) #[.int .i64 0,.bool false,.int .i64 0,.string (strB []),.slice none 0 0,vl]:=Kcf.2 ⟨.slice none 0 0,vl,rfl,⟨⟨by simp,.inl ⟨rfl,rfl⟩⟩,fun g hg=>by simp [Value.ownBlock] at hg⟩,h⟩
 have h3:=h2.rd (by rw [Kdf];simp;omega)
 obtain ⟨pk,ck,pl,cl,e,_,_,hl⟩:=Kb0.1 h3
 have e2:=congrArg (fun (a : Array Value)=>a[5]?) e
 simp at e2
 exact ⟨pl,cl,e2,hl⟩
theorem info_val : ∃ i,Tryz.prog.info? 31 = some i ∧ i.zero = some (.agg #[.int .i64 0,.bool false,.int .i64 0,.string ⟨#[]⟩,.slice none 0 0,.slice none 0 0]) ∧ i.size = 6 ∧ i.bytes = 88:=info_parts (by kernel_rfl)
theorem VOwn.open {w : World} {P : Nat → Prop} {v : V} {x : Array Value} (h : VOwn w P v x) : ∃ vk vl,x = #[.int .i64 v.kind,.bool v.b,.int .i64 v.n,.string (strB v.text),vk,vl] ∧ OwnsP w P 9 1 vk v.keys.length (v.keys.map strV) ∧ LOwn w P vl v.list:=by
 cases v;exact Kcf.1 h
theorem VOwn.mk' {w : World} {P : Nat → Prop} {v : V} {vk vl : Value} (hk : OwnsP w P 9 1 vk v.keys.length (v.keys.map strV)) (hl : LOwn w P vl v.list) : VOwn w P v #[.int .i64 v.kind,.bool v.b,.int .i64 v.n,.string (strB v.text),vk,vl]:=by
 cases v;exact Kcf.2 ⟨_,_,rfl,hk,hl⟩
theorem OwnsP.one {w : World} {P : Nat → Prop} {n : Nat} {vk : Value} {xs : List Value} (h : OwnsP w P 9 1 vk n xs) : vk.oneCell' = true:=by
 rcases h.1.2 with ⟨rfl,_⟩ | ⟨g,cap,cur,rfl,_⟩ <;> rfl
theorem VOwn.ones {w : World} {P : Nat → Prop} {v : V} {x : Array Value} (h : VOwn w P v x) : ∀ u ∈ x.toList,u.oneCell' = true:=by
 obtain ⟨vk,vl,rfl,hk,xs,hl,_⟩:=h.open
 have h1:=hk.one
 have h2 : vl.oneCell' = true:=by rcases hl.1.2 with ⟨rfl,_⟩ | ⟨g,cap,cur,rfl,_⟩ <;> rfl
 intro u hu
 simp only [List.mem_cons,List.not_mem_nil,or_false] at hu
 rcases hu with rfl | rfl | rfl | rfl | rfl | rfl <;> first | rfl | assumption
theorem append_val {w : World} {vl : Value} {n : Nat} {ys : List Value} (hown : w.ownsRow 0 31 6 vl n ys) {g : Nat} {x : Array Value} (h6 : x.size = 6) (h1 : ∀ u ∈ x.toList,u.oneCell' = true)
 (hc : w.heap[g]? = some (.cells x 31 (0,0))) (hn : n ≤ 1100000) (ty : TypeId) :
 ∃ v' w',(Builtin.append_ #[29,29] ty #[vl,.slice (some ⟨g,0,none⟩) 1 1]).run Tryz.prog w = .ok v' w' ∧ w'.ownsRow 0 31 6 v' (n + 1) (ys ++ x.toList) ∧ Touch (fun b=>vl.ownBlock = some b) w w' ∧
  (v'.ownBlock = vl.ownBlock ∨ v'.ownBlock = some w.heap.size) ∧ w.heap.size ≤ w'.heap.size:=by
 obtain ⟨i,i1,i2,i3,i4⟩:=info_val
 exact Kco (P:=Tryz.prog) (w:=w) 29 ty 31 i _ 6 88 Tryz.underlying29 i1 i2 i3 i4 rfl vl n ys hown ⟨g,0,none⟩ 1 1 x.toList (by simp [h6]) (fun j u hu=>by
  rw [Kap,Nat.zero_add];exact Kac hc (by simpa using hu)) h1 (by unfold maxLen;omega) (by omega)
def CInv (w W : World) (ov : Value) (m : List V) : Prop:=∃ xs,OwnsP W (fun b=>w.heap.size ≤ b) 31 6 ov m.length (xs.flatMap Array.toList) ∧ VOwns W (fun b=>w.heap.size ≤ b ∧ ov.ownBlock ≠ some b) m xs ∧ Below w.heap.size w W
theorem CInv.below {w W W' : World} {ov : Value} {m : List V} (h : CInv w W ov m) (g : Below W.heap.size W W') : CInv w W' ov m:=by
 obtain ⟨xs,h1,h2,h3⟩:=h
 exact ⟨xs,h1.keep fun b _ hb=>g.block b hb,h2.below g,Kaa h3 g⟩
theorem CInv.start {w W : World} (h : Below w.heap.size w W) : CInv w W (.slice none 0 0) []:=⟨[],⟨⟨rfl,.inl ⟨rfl,rfl⟩⟩,fun g hg=>by simp [Value.ownBlock] at hg⟩,rfl,h⟩
theorem CInv.own {w W : World} {ov : Value} {m : List V} (h : CInv w W ov m) : LOwn W (fun b=>w.heap.size ≤ b) ov m:=by
 obtain ⟨xs,h1,h2,h3⟩:=h
 exact ⟨xs,h1,h2.imp fun b _ hb=>hb.1⟩
theorem CInv.step {w W W1 : World} {ov : Value} {m : List V} {v : V} {x : Array Value} {base : Nat} (h : CInv w W ov m) (hbase : W.heap.size ≤ base) (hb : Below W.heap.size W W1) (hx : VOwn W1 (fun b=>base ≤ b) v x) (hm : m.length ≤ 1100000) (ty : TypeId) :
 ∃ v' W2,(Builtin.append_ #[29,29] ty #[ov,.slice (some ⟨W1.heap.size,0,none⟩) 1 1]).run Tryz.prog (W1.alloc (.cells x 31)) = .ok v' W2 ∧ CInv w W2 v' (m ++ [v]):=by
 have hnew : Below W1.heap.size W1 (W1.alloc (.cells x 31)):=Kad _
 have hlt : ∀ g,ov.ownBlock = some g → g < W.heap.size:=by
  obtain ⟨xs,h1,_⟩:=h
  exact fun g hg=>(h1.1.lt g hg).2
 obtain ⟨xs,h1,h2,h3⟩:=(h.below hb).below hnew
 have hx':=hx.below hnew
 have hwW : w.heap.size ≤ W.heap.size:=by obtain ⟨_,_,_,h⟩:=h;exact h.size
 obtain ⟨v',W2,a1,a2,a3,a4,a5⟩:=append_val h1.1 hx.size6 hx.ones (heap_alloc_new W1 _) hm ty
 refine ⟨v',W2,a1,xs ++ [x],⟨?_,fun g hg=>?_⟩,?_,?_⟩
 ·rw [List.flatMap_append,List.length_append]
  simpa using a2
 ·rcases a4 with e | e
  ·exact h1.2 g (e.symm.trans hg)
  ·rw [e] at hg
   cases hg
   have:=h3.size
   omega
 ·have hs : VOwns (W1.alloc (.cells x 31)) (fun b=>w.heap.size ≤ b ∧ ov.ownBlock ≠ some b ∧ b < (W1.alloc (.cells x 31)).heap.size) (m ++ [v]) (xs ++ [x]) :=
   VOwns_snoc (h2.imp fun b hb hp=>⟨hp.1,hp.2,hb⟩) (hx'.imp fun b hb hp=>⟨by omega,fun e=>by have:=hlt b e;omega,hb⟩)
  refine (hs.keep (w':=W2) fun b hp hb=>a3.block b hb hp.2.1).imp fun b _ hp=>⟨hp.1,?_⟩
  rcases a4 with e | e
  ·rw [e];exact hp.2.1
  ·rw [e];intro e2;cases e2;have:=hp.2.2;omega
 ·exact a3.below h3 (fun b hb e=>by have:=h1.2 b e;omega) h3.size
theorem clone_any {w : World} {p : Option Addr} {c : Nat} {ks : List (List UInt8)} (h : RdS w p c ks) (hn : ks.length ≤ 1100000) :
 Calls Tryz.prog 44 #[.slice p ks.length c] w fun e w'=>∃ vk,e = .returned vk ∧ OwnsP w' (fun b=>w.heap.size ≤ b) 9 1 vk ks.length (ks.map strV) ∧ Below w.heap.size w w':=by
 cases ks with
 | nil =>
   cases p with
   | none =>
     refine (Tryz.slices_Clone_string_nil 0 c w).mono ?_
     rintro e w' ⟨rfl,rfl⟩
     exact ⟨_,rfl,⟨⟨rfl,.inl ⟨rfl,rfl⟩⟩,fun g hg=>by simp [Value.ownBlock] at hg⟩,Below.refl _ _⟩
   | some ad =>
     refine (Tryz.slices_Clone_string_zero ad c w).mono ?_
     rintro e w' ⟨v',rfl,h1,_,h2⟩
     exact ⟨_,rfl,.of_base h1,h2⟩
 | cons a r =>
   obtain ⟨b,o,rfl,_⟩:=h.get (i:=0) (by simp)
   have hc : ∀ j,j < ((a :: r).map strB).length → w.cell? ⟨b,o + j,none⟩ = some (.string (((a :: r).map strB).getD j ByteArray.empty)):=by
    intro j hj
    have hj' : j < (a :: r).length:=by simpa using hj
    rw [(h.2.2.2.2 _ rfl).2 j (a :: r)[j] (List.getElem?_eq_getElem hj')]
    have e : ((a :: r).map strB).getD j ByteArray.empty = strB (a :: r)[j]:=by simp only [List.getD,List.getElem?_map,List.getElem?_eq_getElem hj',Option.map_some,Option.getD_some]
    rw [e]
   refine (Tryz.slices_Clone_string b o (a :: r).length c ((a :: r).map strB) w (by simp) (by omega) hc).mono ?_
   rintro e w' ⟨v',rfl,h1,_,h2⟩
   rw [List.take_of_length_le (by simp),List.map_map] at h1
   exact ⟨_,rfl,.of_base h1,h2⟩
def CopyOk (w : World) (v : V) (e : Ending) (w' : World) : Prop:=∃ x,e = .returned (.agg x) ∧ VOwn w' (fun b=>w.heap.size ≤ b) v x ∧ Below w.heap.size w w'
theorem copies_any {w : World} {p : Option Addr} {c : Nat} {l : List V} (hl : LRd w p c l) (hn : l.length ≤ 1100000)
 (hc : ∀ v ∈ l,∀ (W : World) (x : Array Value),VRd W v x → Calls Tryz.prog 102 #[.agg x] W (CopyOk W v)) :
 Calls Tryz.prog 148 #[.slice p l.length c] w fun e w'=>∃ vl,e = .returned vl ∧ LOwn w' (fun b=>w.heap.size ≤ b) vl l ∧ Below w.heap.size w w':=by
 have HL:=yh hl
 have HC:=yh hc
 have z1 : (l.length : Int) ≤ 140737488355328:=by omega
 clear hl hc
 go_enter Tryz.func148,Tryz.ntmps148
 go_wp2
 go_loopw [3,8] (fun o i wr=>∃ j : Nat,j ≤ l.length ∧ i = .int .i64 (j : Int) ∧ Hid (CInv w wr o (l.take j))) (fun _ i _=>l.length - (intOf i).toNat)
 case atStart=>exact ⟨0,Nat.zero_le _,rfl,yh (CInv.start (Below.refl _ _))⟩
 case round =>
  obtain ⟨j,hj,rfl,HJ⟩:=hrel
  by_cases hlt : j < l.length
  ·have hlt1 : j + 1 ≤ l.length:=hlt
   have htk : l.take (j + 1) = l.take j ++ [l[j]]:=List.take_succ_eq_append_getElem hlt
   have hbw : Below w.heap.size w wr:=by obtain ⟨_,_,_,h⟩:=HJ.out;exact h
   obtain ⟨g1,o1,pk1,ck1,pl1,cl1,rfl,⟨a0,a1,a2,a3,a4,a5⟩,hv1⟩:=(HL.out.below hbw).at hlt
   have hcall:=HC.out l[j] (List.getElem_mem hlt)
   generalize l[j] = s1 at *
   have HD:=yh (And.intro htk (And.intro hcall hv1))
   have HN:=yh hn
   clear htk hcall hv1 hbw hn
   go_wp2_with (first
    | (go_at_call 102
       refine (HD.out.2.1 _ _ (HD.out.2.2.below (Kad _))).mono ?_
       rintro e w1 ⟨x,rfl,hx,hb⟩
       obtain ⟨v',W2,ha,hI⟩:=HJ.out.step (Nat.le_succ _) (Kaa (Kad _) hb) (hx.imp fun b _ hp=>by simpa using hp) (by rw [List.length_take];have:=HN.out;omega) 29
       rw [← HD.out.1] at hI
       obtain ⟨vk,vl,rfl,_⟩:=hx.open
       have Ha:=yh ha
       have HI:=yh hI
       clear ha hI hx hb HJ HD)
    | (refine wpList_append rfl rfl rfl rfl Ha.out ?_))
   go_roundw
   case rel=>exact ⟨j + 1,hlt1,by go_num,HI⟩
   case measure=>simp [intOf];omega
  ·obtain rfl : j = l.length:=by omega
   go_wp2
   go_ret
   have h:=HJ.out
   rw [List.take_length] at h
   have hb : Below w.heap.size w wr:=by obtain ⟨_,_,_,h⟩:=h;exact h
   exact ⟨_,rfl,h.own,hb⟩
theorem Kbs {W : World} {g k : Nat} {cs : Array Value} {t : TypeId} (u : Value) (h : W.heap[g]? = some (.cells cs t (0,0))) : (W.setCell ⟨g,k,none⟩ u).heap[g]? = some (.cells (cs.setIfInBounds k u) t (0,0)):=heap_setCell_same W g k cs t u h
theorem Kbb {w : World} {P : Nat → Prop} {e : TypeId} {size n : Nat} {v : Value} {xs : List Value} (h : OwnsP w P e size v n xs) : ∃ p c,v = .slice p n c:=by
 rcases h.1.2 with ⟨rfl,rfl⟩ | ⟨g,cap,cur,rfl,_⟩
 ·exact ⟨none,0,rfl⟩
 ·exact ⟨some ⟨g,0,none⟩,cap,rfl⟩
theorem put_keys {w : World} {ad : Addr} {p : Option Addr} {n c : Nat} {u : Value} (hc : w.cell? ad = some u) (hf : w.frozen? ad = false) : (storeVar 26 ad (.slice p n c)).run Tryz.prog w = .ok () (w.setCell ad (.slice p n c)):=by
 simp [go_sem,hc,hf,stored]
theorem put_vals {w : World} {ad : Addr} {p : Option Addr} {n c : Nat} {u : Value} (hc : w.cell? ad = some u) (hf : w.frozen? ad = false) : (storeVar 29 ad (.slice p n c)).run Tryz.prog w = .ok () (w.setCell ad (.slice p n c)):=by
 simp [go_sem,hc,hf,stored]
theorem copy_any : ∀ (v : V),totV v ≤ 1100000 → ∀ (w : World) (x : Array Value),VRd w v x → Calls Tryz.prog 102 #[.agg x] w (CopyOk w v):=by
 refine V.ind fun k b n t ks l ih=>?_
 intro ht w x hx
 rw [Kdf] at ht
 have hlen:=Kcy l
 obtain ⟨pk,ck,pl,cl,rfl,_,hk1,hl1⟩:=Kb0.1 hx
 have hT:=TwoV.start w #[.int .i64 k,.bool b,.int .i64 n,.string (strB t),.slice pk ks.length ck,.slice pl l.length cl] #[.int .i64 0,.bool false,.int .i64 0,.string ⟨#[]⟩,.slice none 0 0,.slice none 0 0]
 have HC:=yh (clone_any (hk1.below hT.2.2) (by omega))
 have HI:=yh (fun (W : World) (hb : Below w.heap.size w W)=>copies_any (hl1.below hb) (by omega) (fun v hv W x hx=>ih v hv (by have:=totVs_mem hv;omega) W x hx))
 have HT:=yh hT
 clear ih hx hk1 hl1 hT ht hlen
 go_enter Tryz.func102,Tryz.ntmps102
 go_wp2_with (first
  | (go_at_call 44
     (
       refine HC.out.mono ?_
       rintro e w1 ⟨vk,rfl,hvk,hb1⟩
       obtain ⟨pk',ck',rfl⟩:=Kbb hvk
       have hT1:=HT.out.below hb1
       have hp1:=put_keys (p:=pk') (n:=ks.length) (c:=ck') (Kac (o:=4) hT1.1 rfl) (Kbe hT1.1)
       have hbx:=Kbs (k:=4) (.slice pk' ks.length ck') hT1.1
       have hB2:=Kce hT1.2.2 (Nat.le_refl _) (.slice pk' ks.length ck') (o:=4)
       have hby:=(Below.heap_setCell w1 ⟨w.heap.size,4,none⟩ (.slice pk' ks.length ck') (w.heap.size + 1) (by simp)).trans hT1.2.1
       have hvk2:=(hvk.keep (w':=w1.setCell ⟨w.heap.size,4,none⟩ (.slice pk' ks.length ck')) (fun b hb _=>Below.heap_setCell w1 ⟨w.heap.size,4,none⟩ _ b (by show b ≠ w.heap.size;simp only [World.size_alloc] at hb;omega))).imp (P':=fun b=>w.heap.size + 2 ≤ b) (fun b _ hb=>by simp only [World.size_alloc] at hb;omega)
       have HL5:=yh (Kag (P:=Tryz.prog) Tryz.underlying29 rfl (Kac (o:=5) hbx rfl))
       have HP1:=yh hp1
       have HB2:=yh (And.intro hbx (And.intro hby (And.intro hB2 hvk2)))
       clear hvk hvk2 hb1 hT1 hp1 hbx hB2 hby))
  | (go_at_call 148
     (
       refine (HI.out _ HB2.out.2.2.1).mono ?_
       rintro e w3 ⟨vl,rfl,hvl,hb3⟩
       obtain ⟨pl',cl',rfl⟩ : ∃ p c,vl = .slice p l.length c:=by obtain ⟨_,h,_⟩:=hvl;exact Kbb h
       obtain ⟨hbx,hby,hB2,hvk2⟩:=HB2.out
       have hx3:=Kai hb3 (Array.getElem?_eq_some_iff.1 hbx).1 hbx
       have hy3:=Kai hb3 (Array.getElem?_eq_some_iff.1 hby).1 hby
       have hlt:=(Array.getElem?_eq_some_iff.1 hby).1
       have hp2:=put_vals (p:=pl') (n:=l.length) (c:=cl') (Kac (o:=5) hx3 rfl) (Kbe hx3)
       have hx4:=Kbs (k:=5) (.slice pl' l.length cl') hx3
       have hy4:=(Below.heap_setCell w3 ⟨w.heap.size,5,none⟩ (.slice pl' l.length cl') (w.heap.size + 1) (by simp)).trans hy3
       have hother:=fun b=>Below.heap_setCell w3 ⟨w.heap.size,5,none⟩ (.slice pl' l.length cl') b
       have hvk4:=(hvk2.keep (fun b _ h=>hb3.block b h)).keep (w':=w3.setCell ⟨w.heap.size,5,none⟩ (.slice pl' l.length cl')) (fun b hb _=>hother b (by show b ≠ w.heap.size;omega))
       obtain ⟨xs,hl1,hl2⟩:=hvl
       have hvl4 : LOwn (w3.setCell ⟨w.heap.size,5,none⟩ (.slice pl' l.length cl')) (fun b=>w.heap.size + 2 ≤ b) (.slice pl' l.length cl') l :=
        ⟨xs,(hl1.keep (fun b hb _=>hother b (by show b ≠ w.heap.size;omega))).imp (fun b _ hb=>by omega),(hl2.keep (fun b hb _=>hother b (by show b ≠ w.heap.size;omega))).imp (fun b _ hb=>by omega)⟩
       have hB4:=Kce (Kaa hB2 hb3) (Nat.le_refl _) (.slice pl' l.length cl') (o:=5)
       generalize w3.setCell ⟨w.heap.size,5,none⟩ (.slice pl' l.length cl') = w4 at *
       have HL4:=yh (get_val (g:=w.heap.size) hx4)
       have hst4:=run_storeVar_row (P:=Tryz.prog) w4 (w.heap.size + 1) 31 31 _ #[.int .i64 k,.bool b,.int .i64 n,.string (strB t),.slice pk' ks.length ck',.slice pl' l.length cl'] hy4 (by kernel_rfl) rfl (by simp [Value.oneCell'])
       have hy5:=setRow_heap w4 (w.heap.size + 1) _ #[.int .i64 k,.bool b,.int .i64 n,.string (strB t),.slice pk' ks.length ck',.slice pl' l.length cl'] 31 _ hy4
       have hoth5:=fun (g : Nat) (hg : w.heap.size + 2 ≤ g)=>setRow_other w4 (w.heap.size + 1) g #[.int .i64 k,.bool b,.int .i64 n,.string (strB t),.slice pk' ks.length ck',.slice pl' l.length cl'] (by omega)
       have hT5 : Touch (fun b=>b = w.heap.size + 1) w4 (w4.setRow (w.heap.size + 1) #[.int .i64 k,.bool b,.int .i64 n,.string (strB t),.slice pk' ks.length ck',.slice pl' l.length cl']):=⟨rfl,rfl,rfl,by simp,fun g _ hg=>setRow_other w4 (w.heap.size + 1) g _ hg⟩
       have hB5 : Below w.heap.size w (w4.setRow (w.heap.size + 1) #[.int .i64 k,.bool b,.int .i64 n,.string (strB t),.slice pk' ks.length ck',.slice pl' l.length cl']):=hT5.below hB4 (fun b hb e=>by omega) hB4.size
       have hvk5:=(hvk4.keep (fun b hb _=>hoth5 b hb)).imp (P':=fun b=>w.heap.size ≤ b) (fun b _ hb=>by omega)
       have hvl5 : LOwn (w4.setRow (w.heap.size + 1) #[.int .i64 k,.bool b,.int .i64 n,.string (strB t),.slice pk' ks.length ck',.slice pl' l.length cl']) (fun b=>w.heap.size ≤ b) (.slice pl' l.length cl') l:=by
        obtain ⟨xs,hl1,hl2⟩:=hvl4
        exact ⟨xs,(hl1.keep (fun b hb _=>hoth5 b hb)).imp (fun b _ hb=>by omega),(hl2.keep (fun b hb _=>hoth5 b hb)).imp (fun b _ hb=>by omega)⟩
       have HF:=yh (And.intro (get_val hy5) (And.intro hvk5 (And.intro hvl5 hB5)))
       have HS4:=yh hst4
       have HP2:=yh hp2
       generalize w4.setRow (w.heap.size + 1) #[.int .i64 k,.bool b,.int .i64 n,.string (strB t),.slice pk' ks.length ck',.slice pl' l.length cl'] = w5 at *
       clear hvk2 hvk4 hvl4 hB4 hB2 hb3 hbx hby hx3 hy3 hx4 hy4 hother hlt hl1 hl2 HB2 HP1 hp2 hst4 hy5 hoth5 hT5 hB5 hvk5 hvl5))
  | (refine Kav rfl _ _ _ _ rfl rfl rfl HP1.out ?_)
  | (refine Kav rfl _ _ _ _ rfl rfl rfl HP2.out ?_)
  | (refine Kca rfl _ _ _ rfl rfl HL5.out ?_)
  | (refine Kca rfl _ _ _ rfl rfl HL4.out ?_)
  | (refine Kav rfl _ _ _ _ rfl rfl rfl HS4.out ?_))
 exact bodyPost_ret (Ka3 rfl _ _ ⟨w.heap.size + 1,0,none⟩ _ rfl HF.out.1) rfl ⟨_,rfl,Kcf.2 ⟨_,_,rfl,HF.out.2.1,HF.out.2.2.1⟩,HF.out.2.2.2⟩
end Go.Proofs.YtihfnegakcghiaaGreatDoor
namespace Go.Proofs.YtihfnegakcghiaaGreatDoor
open Go.RowKit
mutual
def preV (d : Nat) : V → List (Nat × V)
 | .mk k b n t ks l=>(d,.mk k b n t ks l) :: preVs (d + 1) l
def preVs (d : Nat) : List V → List (Nat × V)
 | []=>[]
 | a :: r=>preV d a ++ preVs d r
end
theorem preVs_append (d : Nat) (m : List V) : ∀ l : List V,preVs d (l ++ m) = preVs d l ++ preVs d m:=by
 intro l
 induction l with
 | nil=>simp [preVs]
 | cons a r ih=>rw [List.cons_append,preVs,preVs,ih,List.append_assoc]
abbrev Yd:=Nat × V × Array Value
def dv (e : Yd) : Nat × V:=(e.1,e.2.1)
def encY (e : Yd) : Array Value:=#[.int .i64 (e.1 : Int),.agg e.2.2]
def okY (w0 : World) (root : V) (pre : List Yd) : Prop:=(∃ rest,preV 1 root = pre.map dv ++ rest) ∧ ∀ e ∈ pre,VRd w0 e.2.1 e.2.2
def doneY (w0 : World) (root : V) (pre : List Yd) : Prop:=okY w0 root pre ∧ preV 1 root = pre.map dv
def RecY (W : World) (n0 L : Nat) : Prop:=W.heap[n0]? = some (.cells #[.func (.yield L) #[] #[]] 212 (0,0)) ∧ W.heap[n0 + 1]? = some (.cells #[.func (.func 190) #[] #[.pointer (some ⟨n0,0,none⟩),.pointer (some ⟨n0 + 1,0,none⟩)]] 213 (0,0))
def RestY (n0 : Nat) (W W' : World) : Prop:=W.heap.size ≤ W'.heap.size ∧ ∀ b,n0 ≤ b → b < W.heap.size → W'.heap[b]? = W.heap[b]?
theorem RestY.refl (n0 : Nat) (W : World) : RestY n0 W W:=⟨Nat.le_refl _,fun _ _ _=>rfl⟩
theorem RestY.trans {n0 : Nat} {W W' W'' : World} (h : RestY n0 W W') (g : RestY n0 W' W'') : RestY n0 W W'':=⟨Nat.le_trans h.1 g.1,fun b h1 h2=>(g.2 b h1 (Nat.lt_of_lt_of_le h2 h.1)).trans (h.2 b h1 h2)⟩
theorem RestY.of_below {n0 : Nat} {W W' : World} (h : Below W.heap.size W W') : RestY n0 W W':=⟨h.size,fun b _ hb=>h.block b hb⟩
theorem RestY.blk {n0 : Nat} {W W' : World} (h : RestY n0 W W') {b : Nat} {o : Obj} (hb : n0 ≤ b) (g : W.heap[b]? = some o) : W'.heap[b]? = some o:=(h.2 b hb (Array.getElem?_eq_some_iff.1 g).1).trans g
theorem RecY.rest {n0 L : Nat} {W W' : World} (h : RecY W n0 L) (g : RestY n0 W W') : RecY W' n0 L:=⟨g.blk (Nat.le_refl _) h.1,g.blk (by omega) h.2⟩
section
variable {w0 : World} {root : V} {L n0 : Nat} {J : List Yd → World → Prop} {Jx : World → Prop}
structure CtxY (w0 : World) (root : V) (L n0 : Nat) (J : List Yd → World → Prop) (Jx : World → Prop) : Prop where
 pre : ∀ pre W,J pre W → Below w0.heap.size w0 W
 keep : ∀ pre W W',J pre W → n0 ≤ W.heap.size → Touch (fun b=>n0 ≤ b) W W' → J pre W'
 yields : ∀ pre x W,okY w0 root (pre ++ [x]) → J pre W → n0 ≤ W.heap.size → Yields Tryz.prog L (encY x) W (fun e W' =>
  (∀ b,n0 ≤ b → b < W.heap.size → W'.heap[b]? = W.heap[b]?) ∧ W.heap.size ≤ W'.heap.size ∧ ((e = .returned (.bool true) ∧ J (pre ++ [x]) W') ∨ (e = .returned (.bool false) ∧ Jx W')))
def GoesY (w0 : World) (root : V) (n0 : Nat) (J : List Yd → World → Prop) (Jx : World → Prop) (pre : List Yd) (ds : List (Nat × V)) (W : World) (e : Ending) (W' : World) : Prop :=
 RestY n0 W W' ∧ ∃ r,e = .returned (.bool r) ∧ (r = true → ∃ ys,okY w0 root (pre ++ ys) ∧ ys.map dv = ds ∧ J (pre ++ ys) W') ∧ (r = false → Jx W')
end
def LoopY (w0 : World) (root : V) (n0 L : Nat) (J : List Yd → World → Prop) (pre : List Yd) (e : Yd) (d : Nat) (done : List V) (W W' : World) : Prop :=
 ∃ ys,okY w0 root (pre ++ [e] ++ ys) ∧ ys.map dv = preVs (d + 1) done ∧ J (pre ++ [e] ++ ys) W' ∧ RecY W' n0 L ∧ RestY n0 W W'
theorem exec_yield {P : Program} {a : Act} {w : World} {o : Oper} {l : Nat} {fn : FuncId} {tmps : Array Value} {assign body : Code} {f : Operand} {xs : List Operand} {ts : Array TypeId} (vs : List Value) (ho : o.op = .call { callee:=.value f,args:=xs.toArray,argTypes:=ts })
 (hf : a.eval f = .func (.yield l) #[] #[]) (hx : xs.map a.eval = vs) (hy : (Instr.yield l vs.toArray).run P w = .ok (.round l fn tmps assign body) w) : (execOp a.eval o).run P w = .ok (.round l fn tmps assign body) w:=by
 unfold execOp
 simp only [ho,resolve,hf,List.map_toArray,hx,Deferred.ofValue,Sem.run_bind,Sem.run_pure,Result.andThen_ok,invoke,Array.empty_append,Array.append_empty]
 exact hy
theorem goes_any {w0 : World} {root : V} {L n0 : Nat} {J : List Yd → World → Prop} {Jx : World → Prop} (C : CtxY w0 root L n0 J Jx) (h0 : w0.heap.size ≤ n0) :
 ∀ (v : V) (d : Nat),d + totV v ≤ 140737488355328 → ∀ (pre : List Yd) (x : Array Value) (W : World),VRd w0 v x → okY w0 root pre → (∃ rest,preV 1 root = pre.map dv ++ (preV d v ++ rest)) → J pre W → RecY W n0 L →
  Calls Tryz.prog 190 #[.agg x,.int .i64 (d : Int),.pointer (some ⟨n0,0,none⟩),.pointer (some ⟨n0 + 1,0,none⟩)] W (GoesY w0 root n0 J Jx pre (preV d v) W):=by
 refine V.ind fun k b n t ks l ih=>?_
 intro d hd pre x W hx hok hrest hJ hR
 rw [Kdf] at hd
 have hlen:=Kcy l
 have hN : n0 + 1 < W.heap.size:=(Array.getElem?_eq_some_iff.1 hR.2).1
 have hx0:=hx
 obtain ⟨pk,ck,pl,cl,rfl,_,hk1,hl1⟩:=Kb0.1 hx
 have hT:=OneB.start W #[.int .i64 k,.bool b,.int .i64 n,.string (strB t),.slice pk ks.length ck,.slice pl l.length cl]
 have hJ1:=C.keep _ _ _ hJ (by omega) (Touch.of_below hT.2 (fun b h1 h2=>absurd h1 (by omega)))
 have hR1:=hR.rest (RestY.of_below hT.2)
 obtain ⟨rest,hrest⟩:=hrest
 rw [preV] at hrest
 have hokE : okY w0 root (pre ++ [(d,V.mk k b n t ks l,#[.int .i64 k,.bool b,.int .i64 n,.string (strB t),.slice pk ks.length ck,.slice pl l.length cl])]) :=
  ⟨⟨preVs (d + 1) l ++ rest,by rw [hrest];simp [dv]⟩,fun e he=>by
    rcases List.mem_append.1 he with he | he
    ·exact hok.2 e he
    ·obtain rfl:=List.mem_singleton.1 he;exact hx0⟩
 obtain ⟨yfn,ytmps,yas,ybody,hyr,hround⟩:=C.yields _ _ _ hokE hJ1 (by have:=hT.2.size;omega)
 have z1 : (d : Int) ≤ 140737488355328:=by omega
 have z2 : (l.length : Int) ≤ 140737488355328:=by omega
 have HC:=yh C
 have HI:=yh (fun (a : V) (ha : a ∈ l)=>ih a ha (d + 1) (by have:=totVs_mem ha;omega))
 have HL:=yh hl1
 have HR:=yh hR1
 have HT:=yh hT
 have HY:=yh (And.intro hyr (And.intro hround (And.intro hokE hrest)))
 have HN:=yh (And.intro hN h0)
 clear C ih hd hx hok hrest hJ hR hlen hk1 hl1 hT hJ1 hR1 hokE hyr hround hx0 h0 hN
 go_enter Tryz.func190,Tryz.ntmps190
 apply wp_seq_k
 intro K1 hK1
 have HK1:=yh hK1
 clear hK1
 go_wp2
 refine HK1.out _ _ ?_
 obtain ⟨hyr,hround,hokE,hrest⟩:=HY.out
 have hT:=HT.out
 have hR1:=HR.out
 generalize W.alloc _ = W1 at *
 apply wp_seq_k
 intro _ _
 apply wp_seq_k
 intro K2 hK2
 have HK2:=yh hK2
 clear hK2 HK1
 refine yield_region ?_
 refine listRun rfl (fun _ h=>by cases h) (v:=.func (.yield L) #[] #[]) (Kaf rfl rfl (Kag Tryz.underlying212 rfl (Kac hR1.1 rfl))) ?_;simp only [zP]
 refine listRun rfl (fun _ h=>by cases h) (v:=.int .i64 (d : Int)) (exec_move rfl rfl) ?_;simp only [zP]
 refine listRun rfl (fun _ h=>by cases h) (v:=.agg #[.int .i64 k,.bool b,.int .i64 n,.string (strB t),.slice pk ks.length ck,.slice pl l.length cl]) (Kaf rfl rfl (get_val hT.1)) ?_;simp only [zP]
 refine listYield rfl (fun _ h=>by cases h) (exec_yield [.int .i64 (d : Int),.agg #[.int .i64 k,.bool b,.int .i64 n,.string (strB t),.slice pk ks.length ck,.slice pl l.length cl]] rfl rfl rfl hyr) (hround.mono ?_)
 rintro e W2 ⟨hkeep,hsz,hcase⟩
 have hRest2 : RestY n0 W1 W2:=⟨hsz,hkeep⟩
 have hRest : RestY n0 W W2:=(RestY.of_below hT.2).trans hRest2
 have hbx : W2.heap[W.heap.size]? = some (.cells #[.int .i64 k,.bool b,.int .i64 n,.string (strB t),.slice pk ks.length ck,.slice pl l.length cl] 31 (0,0)):=hRest2.blk (by have:=HN.out;omega) hT.1
 have hR2:=hR1.rest hRest2
 rcases hcase with ⟨rfl,hJ2⟩ | ⟨rfl,hX⟩
 ·refine ⟨_,rfl,?_⟩
  simp only [zP]
  refine listRun rfl (fun _ h=>by cases h) (v:=.bool false) (Ka5 (b:=true) rfl rfl) ?_;simp only [zP]
  refine wpListIn_nil (HK2.out _ _ ?_ : K2 _ _)
  have HF:=yh (And.intro hRest (And.intro hbx (And.intro hR2 (And.intro hJ2 (And.intro hokE hrest)))))
  have p5:=Kac (o:=5) hbx rfl
  clear hyr hround hokE hrest hkeep hsz hT hR1 hRest hRest2 hbx hR2 hJ2 HY HT HR HK2
  go_wp2
  clear p5
  go_loopw [17] (fun i W'=>∃ j : Nat,j ≤ l.length ∧ i = .int .i64 (j : Int) ∧ Hid (LoopY w0 root n0 L J pre (d,V.mk k b n t ks l,#[.int .i64 k,.bool b,.int .i64 n,.string (strB t),.slice pk ks.length ck,.slice pl l.length cl]) d (l.take j) W W')) (fun i _=>l.length - (intOf i).toNat)
  case atStart=>exact ⟨0,Nat.zero_le _,rfl,yh ⟨[],by rw [List.append_nil];exact HF.out.2.2.2.2.1,by rw [List.take_zero];rfl,by rw [List.append_nil];exact HF.out.2.2.2.1,HF.out.2.2.1,HF.out.1⟩⟩
  case round =>
   obtain ⟨j,hj,rfl,HJ⟩:=hrel
   by_cases hlt : j < l.length
   ·have hlt1 : j + 1 ≤ l.length:=hlt
    obtain ⟨ys,hok,hmap,hJ,hR,hRest⟩:=HJ.out
    have hB:=HC.out.pre _ _ hJ
    obtain ⟨g1,o1,pk1,ck1,pl1,cl1,rfl,⟨a0,a1,a2,a3,a4,a5⟩,hv1⟩:=HL.out.at hlt
    have b0:=Kae hB (ltOf a0) a0
    have b1:=Kae hB (ltOf a1) a1
    have b2:=Kae hB (ltOf a2) a2
    have b3:=Kae hB (ltOf a3) a3
    have b4:=Kae hB (ltOf a4) a4
    have b5:=Kae hB (ltOf a5) a5
    have q1:=Kac (o:=0) hR.2 rfl
    have htk : l.take (j + 1) = l.take j ++ [l[j]]:=List.take_succ_eq_append_getElem hlt
    have hmem:=List.getElem_mem hlt
    have hpr : preVs (d + 1) l = preVs (d + 1) (l.take j) ++ (preV (d + 1) l[j] ++ preVs (d + 1) (l.drop (j + 1))):=by
     have e : l = l.take j ++ (l[j] :: l.drop (j + 1)):=by rw [← List.drop_eq_getElem_cons hlt,List.take_append_drop]
     have:=congrArg (preVs (d + 1)) e
     rw [preVs_append,preVs] at this
     exact this
    have hcall:=fun W' (hJ : J _ W') (hR : RecY W' n0 L)=>HI.out l[j] hmem _ _ W' hv1 hok (by
     obtain ⟨rest2,hr2⟩:=(⟨rest,HF.out.2.2.2.2.2⟩ : ∃ rest,preV 1 root = _ ++ ((d,V.mk k b n t ks l) :: preVs (d + 1) l ++ rest))
     refine ⟨preVs (d + 1) (l.drop (j + 1)) ++ rest2,?_⟩
     rw [hr2,hpr,List.map_append,List.map_append,hmap]
     simp [dv]) hJ hR
    generalize l[j] = s1 at *
    have q2:=Kae (Kad (w:=wr) (.cells #[.int .i64 s1.kind,.bool s1.b,.int .i64 s1.n,.string (strB s1.text),.slice pk1 s1.keys.length ck1,.slice pl1 s1.list.length cl1] 31)) (ltOf q1) q1
    have HD:=yh (And.intro hcall (And.intro hmap (And.intro hJ (And.intro hR (And.intro hRest htk)))))
    clear hcall hok hmap hJ hR hRest hB hv1 htk hmem hpr a0 a1 a2 a3 a4 a5 HJ
    go_wp2_with (go_at_call 190
                 (
                   have hN1 : n0 + 1 < wr.heap.size:=(Array.getElem?_eq_some_iff.1 HD.out.2.2.2.1.2).1
                   have hb8:=Kad (w:=wr) (.cells #[.int .i64 s1.kind,.bool s1.b,.int .i64 s1.n,.string (strB s1.text),.slice pk1 s1.keys.length ck1,.slice pl1 s1.list.length cl1] 31)
                   refine (HD.out.1 _ (HC.out.keep _ _ _ HD.out.2.2.1 (by omega) (Touch.of_below hb8 (fun b h1 h2=>absurd h1 (by omega)))) (HD.out.2.2.2.1.rest (RestY.of_below hb8))).mono ?_
                   rintro e w3 ⟨hr3,r,rfl,ht,hf⟩
                   have HG:=yh (And.intro ht (And.intro hf ((RestY.of_below hb8).trans hr3)))
                   clear hb8 hr3 ht hf))
    ·go_ret
     cases r with
     | true=>rename_i hh;exact absurd hh (by simp)
     | false=>exact ⟨HD.out.2.2.2.2.1.trans HG.out.2.2,_,rfl,(fun h=>by cases h),fun _=>HG.out.2.1 rfl⟩
    ·cases r with
     | false=>rename_i hh;exact absurd hh (by simp)
     | true =>
       obtain ⟨zs,hok3,hmap3,hJ3⟩:=HG.out.1 rfl
       have HF3:=yh (And.intro hok3 (And.intro hmap3 hJ3))
       clear hok3 hmap3 hJ3
       refine ⟨⟨j + 1,hlt1,by go_num,yh ⟨_ ++ zs,by rw [← List.append_assoc];exact HF3.out.1,?_,by rw [← List.append_assoc];exact HF3.out.2.2,HD.out.2.2.2.1.rest HG.out.2.2,HD.out.2.2.2.2.1.trans HG.out.2.2⟩⟩,by simp [intOf];omega⟩
       rw [List.map_append,HD.out.2.1,HF3.out.2.1,HD.out.2.2.2.2.2,preVs_append]
       simp [preVs]
   ·obtain rfl : j = l.length:=by omega
    have h:=HJ.out
    rw [List.take_length] at h
    have HF2:=yh h
    clear h HJ
    go_wp2
    go_ret
    obtain ⟨ys,hok,hmap,hJ,hR,hRest⟩:=HF2.out
    refine ⟨hRest,true,rfl,fun _=>⟨_ :: ys,by rw [List.append_assoc] at hok;exact hok,?_,by rw [List.append_assoc] at hJ;exact hJ⟩,fun h=>by cases h⟩
    rw [List.map_cons,hmap,preV]
    rfl
 ·refine ⟨_,rfl,?_⟩
  simp only [zP]
  refine listRun rfl (fun _ h=>by cases h) (v:=.bool true) (Ka5 (b:=false) rfl rfl) ?_;simp only [zP]
  refine wpListIn_nil (HK2.out _ _ ?_ : K2 _ _)
  have HF:=yh (And.intro hRest hX)
  clear hyr hround hokE hrest hkeep hsz hT hR1 hRest hRest2 hbx hR2 hX HY HT HR HK2
  go_wp2
  go_ret
  exact ⟨HF.out.1,_,rfl,(fun h=>by cases h),fun _=>HF.out.2⟩
theorem put_goes {w : World} {ad p q : Addr} {u : Value} (hc : w.cell? ad = some u) (hf : w.frozen? ad = false) :
 (storeVar 213 ad (.func (.func 190) #[] #[.pointer (some p),.pointer (some q)])).run Tryz.prog w = .ok () (w.setCell ad (.func (.func 190) #[] #[.pointer (some p),.pointer (some q)])):=by
 have h:=run_store Tryz.prog w ad (.func (.func 190) #[] #[.pointer (some p),.pointer (some q)]) .plain rfl
 have e : (Value.func (.func 190) #[] #[.pointer (some p),.pointer (some q)]).cells = #[Value.func (.func 190) #[] #[.pointer (some p),.pointer (some q)]]:=rfl
 simp [storeVar,go_sem,e,storeCells,h,stored,hc,hf,Addr.add]
theorem iter_all {w0 : World} {root : V} {x : Array Value} (B : Nat) (hx : VRd w0 root x) (ht : totV root ≤ 140737488355327) :
 IterA Tryz.prog 189 #[.pointer (some ⟨B,0,none⟩)] encY (okY w0 root) (doneY w0 root) (fun W=>Below w0.heap.size w0 W ∧ W.heap[B]? = some (.cells x 31 (0,0))):=by
 intro L J Jx w hlt hpre hkeep hY h0
 obtain ⟨hb0,hB⟩:=hpre _ _ h0
 have hBlt:=(Array.getElem?_eq_some_iff.1 hB).1
 have hC : CtxY w0 root L w.heap.size J Jx:=⟨fun pre W h=>(hpre pre W h).1,hkeep,hY⟩
 obtain ⟨pk,ck,pl,cl,rfl,_⟩:=hx.open
 have hA : ((w.alloc (.cells #[.func (.yield L) #[] #[]] 212)).alloc (.cells #[.nilFunc] 213)).heap[w.heap.size + 1]? = some (.cells #[.nilFunc] 213 (0,0)):=by
  simp only [Kaw,World.size_alloc];rw [if_pos trivial]
 have hA0 : ((w.alloc (.cells #[.func (.yield L) #[] #[]] 212)).alloc (.cells #[.nilFunc] 213)).heap[w.heap.size]? = some (.cells #[.func (.yield L) #[] #[]] 212 (0,0)):=by
  simp only [Kaw,World.size_alloc];rw [if_neg (by omega),if_pos trivial]
 have hAb : Below w.heap.size w ((w.alloc (.cells #[.func (.yield L) #[] #[]] 212)).alloc (.cells #[.nilFunc] 213)):=(Kad _).alloc (by simp) _
 have hst:=put_goes (p:=⟨w.heap.size,0,none⟩) (q:=⟨w.heap.size + 1,0,none⟩) (Kac (o:=0) hA rfl) (Kbe (o:=0) hA)
 have hR : RecY (((w.alloc (.cells #[.func (.yield L) #[] #[]] 212)).alloc (.cells #[.nilFunc] 213)).setCell ⟨w.heap.size + 1,0,none⟩ (.func (.func 190) #[] #[.pointer (some ⟨w.heap.size,0,none⟩),.pointer (some ⟨w.heap.size + 1,0,none⟩)])) w.heap.size L :=
  ⟨(Below.heap_setCell _ _ _ _ (by show w.heap.size ≠ w.heap.size + 1;omega)).trans hA0,Kbs _ hA⟩
 have hbW : Below w.heap.size w (((w.alloc (.cells #[.func (.yield L) #[] #[]] 212)).alloc (.cells #[.nilFunc] 213)).setCell ⟨w.heap.size + 1,0,none⟩ (.func (.func 190) #[] #[.pointer (some ⟨w.heap.size,0,none⟩),.pointer (some ⟨w.heap.size + 1,0,none⟩)])):=Kce hAb (by omega) _
 have HS:=yh hst
 clear hst hA hA0 hAb
 generalize ((w.alloc (.cells #[.func (.yield L) #[] #[]] 212)).alloc (.cells #[.nilFunc] 213)).setCell ⟨w.heap.size + 1,0,none⟩ (.func (.func 190) #[] #[.pointer (some ⟨w.heap.size,0,none⟩),.pointer (some ⟨w.heap.size + 1,0,none⟩)]) = W2 at *
 have hbox:=Kai hbW hBlt hB
 have hJ:=hkeep _ _ _ h0 (Nat.le_refl _) (Touch.of_below hbW (fun b h1 h2=>absurd h1 (by omega)))
 have hcall:=goes_any hC hb0.size root 1 (by omega) [] _ _ hx ⟨⟨preV 1 root,rfl⟩,fun e he=>by simp at he⟩ ⟨[],by simp⟩ hJ hR
 have HCall:=yh hcall
 have HV:=yh (get_val hbox)
 have HL:=yh (Kag (P:=Tryz.prog) Tryz.underlying213 rfl (Kac (o:=0) hR.2 rfl))
 clear hcall hbox hR hJ hC hpre hkeep hY h0 hx hB hb0
 refine callsIn_of_wp Tryz.func189 rfl trivial ?_ rfl
 refine (wpIn_wide (n:=0)).2 ?_
 simp only [Tryz.ntmps189,List.size_toArray,List.length_cons,List.length_nil,Nat.reduceAdd,Nat.reduceSub,Array.replicate_succ,Array.replicate_zero,List.push_toArray,List.append_toArray,List.nil_append,List.cons_append]
 go_wp2_with (first
  | (refine Kav rfl _ _ _ _ rfl rfl rfl HS.out ?_)
  | (refine Kca rfl _ _ _ rfl rfl HL.out ?_)
  | (refine Kca rfl _ _ _ rfl rfl HV.out ?_)
  | (go_at_call 190
     (
       refine HCall.out.mono ?_
       rintro e w3 ⟨_,r,rfl,ht,hf⟩
       have HG:=yh (And.intro ht hf)
       clear ht hf)))
 go_end0
 refine ⟨rfl,?_⟩
 cases r with
 | true =>
   obtain ⟨ys,h1,h2,h3⟩:=HG.out.1 rfl
   exact .inl ⟨ys,⟨h1,h2.symm⟩,h3⟩
 | false=>exact .inr (HG.out.2 rfl)
end Go.Proofs.YtihfnegakcghiaaGreatDoor
namespace Go.Proofs.YtihfnegakcghiaaGreatDoor
open Go.RowKit
abbrev greatV : Value:=.iface 174 (.agg #[])
theorem caught_idle (q : Addr) (w : World) :
 CallsDIn FW 0 Tryz.prog 142 #[.pointer (some q)] .returning w fun e u' w'=>e = .returned (.tuple #[]) ∧ u' = .returning ∧ w' = w:=by
 have hnil : ∀ w : World,(binOp BinOp.eql 20 .nilIface .nilIface).run Tryz.prog w = .ok (.bool true) w:=fun _=>by kernel_rfl
 refine callsDIn_of_wpSIn Tryz.func142 rfl trivial fun c₀ cs hu=>?_
 apply wpSIn_seq
 apply wpSIn_region
 simp [wpOpsSIn,go_sem,recoverD,hu,Tryz.ntmps142,Exit.thenS]
 have e : (#[.pointer (some q)] ++ (Array.replicate 9 undef).setIfInBounds 3 Value.nilIface : Array Value) = #[.pointer (some q),undef,undef,undef,.nilIface,undef,undef,undef,undef,undef]:=rfl
 rw [e]
 clear e
 refine wpSIn_of_wpIn rfl ((wpIn_wide (n:=0)).2 ?_)
 have HU:=yh hu
 clear hu
 go_wp2
 refine ⟨rfl,.returning,?_,_,results_none rfl _ _ _,rfl,rfl,rfl⟩
 have hu:=HU.out
 cases c₀
 simp_all
theorem put_errno {w : World} {ad : Addr} {n : Int} {u : Value} (hc : w.cell? ad = some u) (hf : w.frozen? ad = false) : (storeVar 38 ad (.int .i64 n)).run Tryz.prog w = .ok () (w.setCell ad (.int .i64 n)):=by
 simp [storeVar,go_sem,hc,hf]
theorem caught_great {w : World} {Q : Nat} {z : Int} (hq : w.heap[Q]? = some (.cells #[.int .i64 z] 38 (0,0))) :
 CallsDIn FW 0 Tryz.prog 142 #[.pointer (some ⟨Q,0,none⟩)] (.panicking [{ v:=greatV,recovered:=false }]) w fun e u' w' =>
  e = .returned (.tuple #[]) ∧ u' = .panicking [{ v:=greatV,recovered:=true }] ∧ w'.heap[Q]? = some (.cells #[.int .i64 3] 38 (0,0)) ∧ Touch (fun x=>x = Q) w w':=by
 have hnil : ∀ w : World,(binOp BinOp.eql 20 greatV .nilIface).run Tryz.prog w = .ok (.bool false) w:=fun _=>by rfl
 have hta : ∀ w : World,(Instr.typeAssert greatV 20 174 true).run Tryz.prog w = .ok (.tuple #[.agg #[],.bool true]) w:=fun _=>by rfl
 have hB : Below w.heap.size w (w.alloc (.cells #[] 174)):=Kad _
 have hQ:=(Array.getElem?_eq_some_iff.1 hq).1
 have hq1:=Kai hB hQ hq
 have hcell:=Kbs (k:=0) (.int .i64 3) hq1
 have hT : Touch (fun x=>x = Q) w ((w.alloc (.cells #[] 174)).setCell ⟨Q,0,none⟩ (.int .i64 3)):=((Touch.refl _ _).alloc _).setCell (.inl (by exact rfl)) _
 have HS:=yh (put_errno (n:=3) (Kac (o:=0) hq1 rfl) (Kbe (o:=0) hq1))
 have HF:=yh (And.intro hcell hT)
 clear hB hQ hq1 hcell hT hq
 refine callsDIn_of_wpSIn Tryz.func142 rfl trivial fun c₀ cs hu=>?_
 apply wpSIn_seq
 apply wpSIn_region
 simp [wpOpsSIn,go_sem,recoverD,hu,Tryz.ntmps142,Exit.thenS]
 have e : (#[.pointer (some ⟨Q,0,none⟩)] ++ (Array.replicate 9 undef).setIfInBounds 3 greatV : Array Value) = #[.pointer (some ⟨Q,0,none⟩),undef,undef,undef,greatV,undef,undef,undef,undef,undef]:=rfl
 rw [e]
 clear e
 refine wpSIn_of_wpIn rfl ((wpIn_wide (n:=0)).2 ?_)
 have HU:=yh hu
 clear hu
 go_wp2_with (refine Kav rfl _ _ _ _ rfl rfl rfl HS.out ?_)
 refine ⟨rfl,.panicking [{ v:=greatV,recovered:=true }],?_,_,results_none rfl _ _ _,rfl,rfl,HF.out⟩
 rfl
theorem all_any (x : Array Value) (c0 c1 c2 c3 c4 c5 : Value) (hx : x = #[c0,c1,c2,c3,c4,c5]) (w : World) : Calls Tryz.prog 143 #[.agg x] w fun e w'=>e = .returned (.func (.func 189) #[] #[.pointer (some ⟨w.heap.size,0,none⟩)]) ∧ w' = w.alloc (.cells x 31):=by
 subst hx
 go_enter Tryz.func143,Tryz.ntmps143
 go_wp2
 go_ret
 exact ⟨rfl,rfl⟩
theorem leave_two {P : Program} {fn : Func} {tmps : Array Value} {R : Ending → World → Prop} {D : Nat} {W : World} {u : FrameMode} {f : FuncId} {fv : Fn} {cap dargs args : Array Value} (hu : u ≠ .run) (h : W.heap[D]? = some (.deferred (some [])))
 (hi : (invoke (.fn fv cap) dargs).run P (W.putObj D (.deferred none)) = .ok (.enter f args) (W.putObj D (.deferred none)))
 (hc : CallsDIn FW 0 P f args u (W.putObj D (.deferred none)) fun e u' w'=>e = .returned (.tuple #[]) ∧ settle u' = .returning ∧ ∃ v,(results fn tmps).run P w' = .ok v w' ∧ R (.returned v) w') :
 LeavesInM FW 0 P fn tmps R [{ target:=.collected D,args:=#[] },{ target:=.fn fv cap,args:=dargs }] u W:=by
 refine ⟨hu,.inl ⟨D,_,rfl,run_takeD h,hu,.inr ⟨fun h=>by simp [Fence.wide] at h,fv,cap,f,args,rfl,hi,fun _ _=>trivial,hc.mono ?_⟩⟩⟩
 rintro e u' w' ⟨rfl,h1,v,h2,h3⟩
 show LeavesInM FW 0 P fn tmps R [] (settle u') w'
 rw [h1]
 exact ⟨v,h2,h3⟩
def ownB (v : V) : Nat:=v.text.length + (v.keys.map List.length).sum
def sumB (pre : List (Nat × V)) : Nat:=(pre.map fun e=>ownB e.2).sum
def overB (pre : List (Nat × V)) : Bool:=pre.any (fun e=>decide (64 < e.1)) || pre.any (fun e=>decide (65536 < e.2.list.length)) || decide (1048576 < sumB pre)
def allB (pre : List (Nat × V)) : Bool:=pre.all fun e=>oneV Lib.validD e.2
theorem sumB_snoc (pre : List (Nat × V)) (e : Nat × V) : sumB (pre ++ [e]) = sumB pre + ownB e.2:=by unfold sumB;rw [List.map_append,List.sum_append];simp
theorem sumB_append (a b : List (Nat × V)) : sumB (a ++ b) = sumB a + sumB b:=by unfold sumB;rw [List.map_append,List.sum_append]
theorem overB_snoc (pre : List (Nat × V)) (e : Nat × V) : overB (pre ++ [e]) = (overB pre || decide (64 < e.1) || decide (65536 < e.2.list.length) || decide (1048576 < sumB pre + ownB e.2)):=by
 unfold overB
 rw [sumB_snoc,List.any_append,List.any_append]
 have h : (decide (1048576 < sumB pre) || decide (1048576 < sumB pre + ownB e.2)) = decide (1048576 < sumB pre + ownB e.2):=by
  by_cases h : 1048576 < sumB pre
  ·have : 1048576 < sumB pre + ownB e.2:=by omega
   simp [h,this]
  ·simp [h]
 generalize decide (1048576 < sumB pre) = a at *
 generalize decide (1048576 < sumB pre + ownB e.2) = b at *
 simp only [List.any_cons,List.any_nil,Bool.or_false]
 generalize pre.any _ = c
 generalize pre.any _ = c'
 generalize decide (64 < e.1) = f
 generalize decide (65536 < _) = g
 cases a <;> cases b <;> cases c <;> cases c' <;> cases f <;> cases g <;> simp_all
theorem sums_pre : ∀ v : V,∀ d,sumB (preV d v) = Kci v ∧ allB (preV d v) = mayV Lib.validD v ∧ (∀ K,(preV d v).any (fun e=>decide (K < e.1)) = decide (K + 1 < d + deepV v)) ∧ (∀ K,(preV d v).any (fun e=>decide (K < e.2.list.length)) = decide (K < longV v)):=by
 refine V.ind fun k b n t ks l ih=>?_
 intro d
 have hl : ∀ (m : List V),(∀ v ∈ m,v ∈ l) → ∀ d,sumB (preVs d m) = Ka6 m ∧ allB (preVs d m) = mayVs Lib.validD m ∧ (∀ K,(preVs d m).any (fun e=>decide (K < e.1)) = decide (m ≠ [] ∧ K + 1 < d + Kbj m)) ∧ (∀ K,(preVs d m).any (fun e=>decide (K < e.2.list.length)) = decide (K < Kbp m)):=by
  intro m
  induction m with
  | nil=>intro _ d;exact ⟨rfl,rfl,fun K=>by simp [preVs],fun K=>by simp [preVs,Kbp]⟩
  | cons a r ihr =>
    intro hm d
    obtain ⟨h1,h2,h3,h4⟩:=ih a (hm a (by simp)) d
    obtain ⟨g1,g2,g3,g4⟩:=ihr (fun v hv=>hm v (by simp [hv])) d
    have hd : 1 ≤ deepV a:=by cases a;rw [deepV];omega
    refine ⟨by rw [preVs,sumB_append,h1,g1,Ka6],?_,fun K=>?_,fun K=>?_⟩
    ·unfold allB at *;rw [preVs,List.all_append,h2,g2,mayVs]
    ·rw [preVs,List.any_append,h3,g3,Kbj,Bool.eq_iff_iff]
     simp only [Bool.or_eq_true,decide_eq_true_eq]
     constructor
     ·rintro (h | ⟨_,h⟩)
      ·exact ⟨by simp,by have:=Nat.le_max_left (deepV a) (Kbj r);omega⟩
      ·exact ⟨by simp,by have:=Nat.le_max_right (deepV a) (Kbj r);omega⟩
     ·rintro ⟨_,h⟩
      rcases Nat.le_total (deepV a) (Kbj r) with e | e
      ·rw [Nat.max_eq_right e] at h
       refine .inr ⟨fun e0=>?_,h⟩
       subst e0;rw [Kbj] at e;omega
      ·rw [Nat.max_eq_left e] at h;exact .inl h
    ·rw [preVs,List.any_append,h4,g4,Kbp,Bool.eq_iff_iff]
     simp only [Bool.or_eq_true,decide_eq_true_eq]
     omega
 obtain ⟨g1,g2,g3,g4⟩:=hl l (fun v hv=>hv) (d + 1)
 refine ⟨?_,?_,fun K=>?_,fun K=>?_⟩
 ·rw [preV,Kci,← g1];unfold sumB;simp [ownB,V.text,V.keys]
 ·rw [preV,mayV,← g2];rfl
 ·rw [preV,List.any_cons,g3,deepV,Bool.eq_iff_iff]
  simp only [Bool.or_eq_true,decide_eq_true_eq]
  constructor
  ·rintro (h | ⟨_,h⟩) <;> omega
  ·intro h
   by_cases hK : K < d
   ·exact .inl hK
   ·refine .inr ⟨fun e0=>?_,by omega⟩
    subst e0;rw [Kbj] at h;omega
 ·rw [preV,List.any_cons,g4,longV,Bool.eq_iff_iff]
  simp only [Bool.or_eq_true,decide_eq_true_eq]
  show (K < l.length ∨ K < Kbp l) ↔ K < max l.length (Kbp l)
  omega
theorem overB_pre (v : V) : overB (preV 1 v) = (decide (64 < deepV v) || decide (1048576 < Kci v) || decide (65536 < longV v)):=by
 obtain ⟨h1,_,h3,h4⟩:=sums_pre v 1
 unfold overB
 rw [h1,h3,h4]
 have e : decide (64 + 1 < 1 + deepV v) = decide (64 < deepV v):=by rw [decide_eq_decide];omega
 rw [e,Bool.or_assoc,Bool.or_assoc,Bool.or_comm (decide (65536 < longV v))]
theorem checkV_eq (v : V) : checkV Lib.validD v = if allB (preV 1 v) then (if overB (preV 1 v) then 3 else 0) else 110:=by
 unfold checkV;rw [overB_pre,(sums_pre v 1).2.1]
structure MidC (w : World) (B : Nat) (x : Array Value) (n : Nat) (ov : Bool) (W : World) : Prop where
 below : Below w.heap.size w W
 box : W.heap[B]? = some (.cells x 31 (0,0))
 res : W.heap[w.heap.size + 1]? = some (.cells #[.int .i64 0] 38 (0,0))
 sum : W.heap[w.heap.size + 2]? = some (.cells #[.int .i64 (n : Int)] 3 (0,0))
 over : W.heap[w.heap.size + 3]? = some (.cells #[.bool ov] 4 (0,0))
theorem MidC.touch {w W W' : World} {B : Nat} {x : Array Value} {n : Nat} {ov : Bool} {S : Nat → Prop} (h : MidC w B x n ov W) (g : Touch S W W') (h1 : ∀ b,b ≤ w.heap.size + 4 → ¬ S b) (hB : ¬ S B) : MidC w B x n ov W' :=
 ⟨g.below h.below (fun b hb=>h1 b (by omega)) h.below.size,g.heap h.box hB,g.heap h.res (h1 _ (by omega)),g.heap h.sum (h1 _ (by omega)),g.heap h.over (h1 _ (by omega))⟩
theorem MidC.setSum {w W : World} {B : Nat} {x : Array Value} {n : Nat} {ov : Bool} (h : MidC w B x n ov W) (hB : w.heap.size + 4 ≤ B) (m : Nat) : MidC w B x m ov (W.setCell ⟨w.heap.size + 2,0,none⟩ (.int .i64 (m : Int))):=by
 have o : ∀ b,b ≠ w.heap.size + 2 → (W.setCell ⟨w.heap.size + 2,0,none⟩ (.int .i64 (m : Int))).heap[b]? = W.heap[b]?:=fun b hb=>Below.heap_setCell _ _ _ _ hb
 exact ⟨Kce h.below (by omega) _,(o _ (by omega)).trans h.box,(o _ (by omega)).trans h.res,Kbs _ h.sum,(o _ (by omega)).trans h.over⟩
theorem MidC.setOver {w W : World} {B : Nat} {x : Array Value} {n : Nat} {ov : Bool} (h : MidC w B x n ov W) (hB : w.heap.size + 4 ≤ B) (m : Bool) : MidC w B x n m (W.setCell ⟨w.heap.size + 3,0,none⟩ (.bool m)):=by
 have o : ∀ b,b ≠ w.heap.size + 3 → (W.setCell ⟨w.heap.size + 3,0,none⟩ (.bool m)).heap[b]? = W.heap[b]?:=fun b hb=>Below.heap_setCell _ _ _ _ hb
 exact ⟨Kce h.below (by omega) _,(o _ (by omega)).trans h.box,(o _ (by omega)).trans h.res,(o _ (by omega)).trans h.sum,Kbs _ h.over⟩
theorem put_n {w : World} {ad : Addr} {n : Int} {u : Value} (hc : w.cell? ad = some u) (hf : w.frozen? ad = false) : (storeVar 3 ad (.int .i64 n)).run Tryz.prog w = .ok () (w.setCell ad (.int .i64 n)):=by
 simp [storeVar,go_sem,hc,hf]
theorem put_b {w : World} {ad : Addr} {n : Bool} {u : Value} (hc : w.cell? ad = some u) (hf : w.frozen? ad = false) : (storeVar 4 ad (.bool n)).run Tryz.prog w = .ok () (w.setCell ad (.bool n)):=by
 simp [storeVar,go_sem,hc,hf]
def SC (w : World) (b : Nat) : Prop:=b = w.heap.size + 1 ∨ b = w.heap.size + 2 ∨ b = w.heap.size + 3
theorem bytes_tot : ∀ v : V,Kci v ≤ totV v:=by
 refine V.ind fun k b n t ks l ih=>?_
 have hl : ∀ m : List V,(∀ v ∈ m,v ∈ l) → Ka6 m ≤ totVs m:=by
  intro m
  induction m with
  | nil=>intro _;simp [Ka6]
  | cons a r ihr=>intro hm;rw [Ka6,Kcq];have:=ih a (hm a (by simp));have:=ihr (fun v hv=>hm v (by simp [hv]));omega
 rw [Kci,Kdf]
 have:=hl l (fun v hv=>hv)
 omega
theorem check_ok {v : V} {w : World} {x : Array Value} (hE : Env w) (hx : VRd w v x) (ht : totV v ≤ 1099511627776) :
 Calls Tryz.prog 100 #[.agg x] w fun e w'=>e = .returned (.int .i64 (checkV Lib.validD v)) ∧ Below w.heap.size w w':=by
 have hC:=checkV_eq v
 have hbt:=bytes_tot v
 have hsb:=(sums_pre v 1).1
 have hx0:=hx
 obtain ⟨pk,ck,pl,cl,rfl,_,hk1,hl1⟩:=hx.open
 have HX:=yh hx0
 have HE:=yh hE
 have HC:=yh hC
 clear hk1 hl1 hx hx0 hE hC
 refine Kcc Tryz.func100 rfl ?_
 simp only [Tryz.ntmps100,List.size_toArray,List.length_cons,List.length_nil,Nat.reduceAdd,Nat.reduceSub,Array.replicate_succ,Array.replicate_zero,List.push_toArray,List.append_toArray,List.nil_append,List.cons_append]
 go_wp2_with (go_at_call 143;refine (all_any _ _ _ _ _ _ _ rfl _).mono ?_;rintro e w' ⟨rfl,rfl⟩)
 generalize hw1 : ((((w.alloc _).alloc _).alloc _).alloc _).alloc _ = W1
 have hM : MidC w (w.heap.size + 4) #[.int .i64 v.kind,.bool v.b,.int .i64 v.n,.string (strB v.text),.slice pk v.keys.length ck,.slice pl v.list.length cl] 0 false W1:=by
  rw [← hw1]
  refine ⟨((((Kad _).alloc (by simp) _).alloc (by simp;omega) _).alloc (by simp;omega) _).alloc (by simp;omega) _,?_,?_,?_,?_⟩ <;>
  ·simp only [Kaw,World.size_alloc];repeat (first | rfl | rw [if_pos (by omega)] | rw [if_neg (by omega)])
 have hs1 : W1.heap.size = w.heap.size + 5:=by rw [← hw1];simp
 clear hw1
 refine wp_rangeA (gf:=189) (gfn:=Tryz.f189) (lb:=#[.pointer (some ⟨w.heap.size + 4,0,none⟩)]) rfl Tryz.func189 rfl rfl
  (iter_all (w0:=w) (w.heap.size + 4) HX.out (by omega)) (fun _=>rfl)
  (fun pre W=>MidC w (w.heap.size + 4) #[.int .i64 v.kind,.bool v.b,.int .i64 v.n,.string (strB v.text),.slice pk v.keys.length ck,.slice pl v.list.length cl] (sumB (pre.map dv)) (overB (pre.map dv)) W ∧ allB (pre.map dv) = true)
  (fun c W=>c = .ret ∧ Below w.heap.size w W ∧ W.heap[w.heap.size + 1]? = some (.cells #[.int .i64 110] 38 (0,0)) ∧ allB (preV 1 v) = false)
  (SC w) (fun b hb=>by unfold SC at hb;omega) ?h0 ?hpre ?hkeep ?hput ?hputx ?hround ?hdone ?hstop
 case h0 =>
  intro W hB' hsz
  exact ⟨hM.touch (Touch.of_below hB' (S:=fun b=>W1.heap.size ≤ b) (fun b _ hb=>hb)) (fun b hb=>by omega) (by omega),rfl⟩
 case hpre=>exact fun pre W h=>⟨h.1.below,h.1.box⟩
 case hkeep=>exact fun pre W W' h hs hk=>⟨h.1.touch hk (fun b hb=>by omega) (by omega),h.2⟩
 case hput =>
  intro pre W o h
  have hp : Touch (fun b=>b = W1.heap.size + 1) W (W.putObj (W1.heap.size + 1) o):=(Touch.refl _ _).putObj (.inl (by exact rfl)) o
  exact ⟨h.1.touch hp (fun b hb=>by omega) (by omega),h.2⟩
 case hputx =>
  rintro c W o ⟨h1,h2,h3,h4⟩
  have hp : Touch (fun b=>b = W1.heap.size + 1) W (W.putObj (W1.heap.size + 1) o):=(Touch.refl _ _).putObj (.inl (by exact rfl)) o
  exact ⟨h1,Kc1 h2 (by omega),hp.heap h3 (by omega),h4⟩
 case hround =>
  rintro r0 r' pre ⟨d,s1,x1⟩ W hok ⟨hI,hgood⟩ hsz hl
  have hv1 : VRd w s1 x1:=hok.2 _ (List.mem_append_right _ (List.mem_singleton.2 rfl))
  obtain ⟨rest,hrest⟩:=hok.1
  rw [List.map_append] at hrest
  have hrest2 : preV 1 v = (pre.map dv ++ [(d,s1)]) ++ rest:=hrest
  have hsum : sumB (pre.map dv) + ownB s1 ≤ 1099511627776:=by
   rw [hrest2,sumB_append,sumB_snoc] at hsb
   simp only at hsb
   omega
  have hmem : (d,s1) ∈ preV 1 v:=by rw [hrest2];simp
  have hdv : (pre ++ [((d,s1,x1) : Yd)]).map dv = pre.map dv ++ [(d,s1)]:=by rw [List.map_append];rfl
  have hov:=overB_snoc (pre.map dv) (d,s1)
  have hsn:=sumB_snoc (pre.map dv) (d,s1)
  have hal : allB (pre.map dv ++ [(d,s1)]) = oneV Lib.validD s1:=by unfold allB at *;rw [List.all_append,hgood];simp
  have hbad : oneV Lib.validD s1 = false → allB (preV 1 v) = false:=fun h=>by
   unfold allB
   rw [List.all_eq_false]
   exact ⟨_,hmem,by simp [h]⟩
  have hcall:=fun (W' : World) (hb : Below w.heap.size w W')=>may_any (HE.out.b hb) (hv1.below hb)
  obtain ⟨pk1,ck1,pl1,cl1,rfl,htx,hk1,hl1⟩:=hv1.open
  rw [hdv]
  simp only at hov hsn
  generalize oneV Lib.validD s1 = on at *
  have HD:=yh (And.intro hov (And.intro hsn (And.intro hal (And.intro hbad (And.intro hcall (And.intro hk1 hsum))))))
  clear hv1 hrest hrest2 hmem hdv hov hsn hal hbad hcall hsb hbt hM hok
  generalize sumB (pre.map dv) = sm at *
  generalize overB (pre.map dv) = ob at *
  generalize sumB (pre.map dv ++ [(d,s1)]) = sm' at *
  generalize overB (pre.map dv ++ [(d,s1)]) = ob' at *
  generalize allB (pre.map dv ++ [(d,s1)]) = al' at *
  simp only [encY]
  refine wpIn_seq_k (fun K1 hK1=>?_)
  refine Kaq (by kernel_rfl) ?_
  go_wp2
  refine hK1 _ _ ?_
  refine Kaq (by kernel_rfl) ?_
  go_wp2
  have hA:=Kad (w:=W) (.cells #[.int .i64 s1.kind,.bool s1.b,.int .i64 s1.n,.string (strB s1.text),.slice pk1 s1.keys.length ck1,.slice pl1 s1.list.length cl1] 31)
  have hAn:=heap_alloc_new W (.cells #[.int .i64 s1.kind,.bool s1.b,.int .i64 s1.n,.string (strB s1.text),.slice pk1 s1.keys.length ck1,.slice pl1 s1.list.length cl1] 31)
  have hllt:=(Array.getElem?_eq_some_iff.1 hl).1
  refine ⟨Touch.of_below hA (fun b h1 h2=>absurd h1 (by omega)),Kai hA hllt hl,fun w₂ hw2=>?_⟩
  have hp : Touch (fun b=>b = W1.heap.size + 1) (W.alloc (.cells #[.int .i64 s1.kind,.bool s1.b,.int .i64 s1.n,.string (strB s1.text),.slice pk1 s1.keys.length ck1,.slice pl1 s1.list.length cl1] 31)) w₂:=by rw [hw2];exact (Touch.refl _ _).putObj (.inl (by exact rfl)) _
  have hI2:=(hI.touch (Touch.of_below hA (S:=fun _=>False) (fun b h1 h2=>absurd h1 (by omega))) (fun _ _ h=>h) (fun h=>h)).touch hp (fun b hb=>by omega) (by omega)
  have h6:=hp.heap hAn (by omega)
  have hlt6 : w.heap.size + 5 < W.heap.size:=by omega
  clear hw2 hp hA hAn hI hl hllt
  generalize W.heap.size = b6 at *
  have H6:=yh (get_val h6)
  have HI:=yh (And.intro hI2 (And.intro h6 (And.intro hlt6 hs1)))
  clear hI2 h6 hlt6 hs1 hsz hgood
  refine wpIn_block ?_
  refine wpIn_seq_k (fun K2 hK2=>?_)
  refine wpIn_seq_k (fun K3 hK3=>?_)
  refine Kaq (by kernel_rfl) ?_
  go_wp2_with (first
   | (refine Kca rfl _ _ _ rfl rfl H6.out ?_)
   | (go_at_call 144
      (
        refine (HD.out.2.2.2.2.1 _ HI.out.1.below).mono ?_
        rintro e w3 ⟨rfl,hb3⟩
        have HB3:=yh hb3
        clear hb3)))
  refine hK3 _ _ ?_
  have hT3 : Touch (SC w) w₂ w3:=Touch.of_below HB3.out (fun b h1 h2=>absurd h1 (by omega))
  have hI3:=HI.out.1.touch (S:=fun _=>False) (Touch.of_below HB3.out (fun b h1 h2=>absurd h1 (by omega))) (fun _ _ h=>h) (fun h=>h)
  have h63:=Kai HB3.out (Array.getElem?_eq_some_iff.1 HI.out.2.1).1 HI.out.2.1
  clear HB3 H6
  cases on with
  | false =>
    have hst:=put_errno (n:=110) (Kac (o:=0) hI3.res rfl) (Kbe (o:=0) hI3.res)
    have hcell:=Kbs (k:=0) (.int .i64 110) hI3.res
    have hT4 : Touch (SC w) w₂ (w3.setCell ⟨w.heap.size + 1,0,none⟩ (.int .i64 110)):=hT3.setCell (.inl (.inl rfl)) _
    have hb4:=Kce (b:=w.heap.size + 1) (o:=0) hI3.below (by omega) (.int .i64 110)
    generalize w3.setCell ⟨w.heap.size + 1,0,none⟩ (.int .i64 110) = w4 at *
    have HS:=yh hst
    have HF:=yh (And.intro hT4 (And.intro hb4 hcell))
    clear hst hcell hT4 hb4 hT3 hI3 h63
    refine wpIn_cond_true rfl ?_
    refine wpIn_seq_k (fun K4 hK4=>?_)
    refine Kaq (by kernel_rfl) ?_
    go_wp2_with (refine Kav rfl _ _ _ _ rfl rfl rfl HS.out ?_)
    refine hK4 _ _ ?_
    refine wpIn_ret ?_
    exact ⟨HF.out.1,rfl,HF.out.2.1,HF.out.2.2,HD.out.2.2.2.1 (by simp)⟩
  | true =>
    refine wpIn_cond_false rfl ?_
    refine wpIn_skip ?_
    refine hK2 _ _ ?_
    have hsz1 : (strB s1.text).size = s1.text.length:=rfl
    have q3:=Kac (o:=0) hI3.sum rfl
    have q63:=Kac (o:=3) h63 rfl
    have hst:=put_n (n:=(sm : Int) + (s1.text.length : Int)) (Kac (o:=0) hI3.sum rfl) (Kbe (o:=0) hI3.sum)
    have hI4:=hI3.setSum (by omega) (sm + s1.text.length)
    rw [Int.natCast_add] at hI4
    have hT4 : Touch (SC w) w₂ (w3.setCell ⟨w.heap.size + 2,0,none⟩ (.int .i64 ((sm : Int) + (s1.text.length : Int)))):=hT3.setCell (.inl (.inr (.inl rfl))) _
    have h64:=(Below.heap_setCell w3 ⟨w.heap.size + 2,0,none⟩ (.int .i64 ((sm : Int) + (s1.text.length : Int))) b6 (by show b6 ≠ w.heap.size + 2;have:=HI.out.2.2.1;omega)).trans h63
    generalize w3.setCell ⟨w.heap.size + 2,0,none⟩ (.int .i64 ((sm : Int) + (s1.text.length : Int))) = w4 at *
    have hown : ownB s1 = s1.text.length + (s1.keys.map List.length).sum:=rfl
    have hsum2:=HD.out.2.2.2.2.2.2
    have z3 : (sm : Int) + (s1.text.length : Int) ≤ 1099511627776:=by omega
    have q64:=Kac (o:=4) h64 rfl
    have HS:=yh hst
    have HI4:=yh (And.intro hI4 (And.intro h64 hT4))
    clear hst hI4 h64 hT4 hT3 hI3 h63 hown hsum2 q64
    refine wpIn_seq_k (fun K4 hK4=>?_)
    refine Kaq (by kernel_rfl) ?_
    go_wp2_with (refine Kav rfl _ _ _ _ rfl rfl rfl HS.out ?_)
    refine hK4 _ _ ?_
    refine wpIn_seq_k (fun K5 hK5=>?_)
    refine wpIn_seq_k (fun K6 hK6=>?_)
    refine Kaq (by kernel_rfl) ?_
    clear q3 q63
    have q64:=Kac (o:=4) HI4.out.2.1 rfl
    go_wp2
    refine hK6 _ _ ?_
    refine wpIn_block ?_
    have z1 : (s1.keys.length : Int) ≤ 140737488355328:=by have:=HD.out.2.2.2.2.2.1.1;have:=HD.out.2.2.2.2.2.1.2.1;omega
    gi_loopw [25] (fun i W5=>∃ j : Nat,j ≤ s1.keys.length ∧ i = .int .i64 (j : Int) ∧ Hid (MidC w (w.heap.size + 4) #[.int .i64 v.kind,.bool v.b,.int .i64 v.n,.string (strB v.text),.slice pk v.keys.length ck,.slice pl v.list.length cl] (sm + s1.text.length + ((s1.keys.take j).map List.length).sum) ob W5 ∧ W5.heap[b6]? = some (.cells #[.int .i64 s1.kind,.bool s1.b,.int .i64 s1.n,.string (strB s1.text),.slice pk1 s1.keys.length ck1,.slice pl1 s1.list.length cl1] 31 (0,0)) ∧ Touch (SC w) w₂ W5)) (fun i _=>s1.keys.length - (intOf i).toNat)
    case atStart=>exact ⟨0,Nat.zero_le _,rfl,yh ⟨by rw [List.take_zero,List.map_nil,List.sum_nil,Nat.add_zero];exact HI4.out.1,HI4.out.2.1,HI4.out.2.2⟩⟩
    case round =>
     obtain ⟨j,hj,rfl,HJ⟩:=hrel
     clear q64 hsz1 z3 HS HI4
     by_cases hlt : j < s1.keys.length
     ·have hlt1 : j + 1 ≤ s1.keys.length:=hlt
      refine wpIn_seq_k (fun K7 hK7=>?_)
      refine Kaq (by kernel_rfl) ?_
      go_wp2
      refine hK7 _ _ ?_
      refine wpIn_seq_k (fun K8 hK8=>?_)
      refine wpIn_cond_true rfl ?_
      refine wpIn_skip ?_
      refine hK8 _ _ ?_
      refine wpIn_seq_k (fun K9 hK9=>?_)
      refine wpIn_block ?_
      obtain ⟨hI5,h65,hT5⟩:=HJ.out
      obtain ⟨bk,ok,rfl,q0,hsl⟩:=(HD.out.2.2.2.2.2.1.below hI5.below).get hlt
      have hge : ((s1.keys.take (j + 1)).map List.length).sum = ((s1.keys.take j).map List.length).sum + s1.keys[j].length:=by
       rw [List.take_succ_eq_append_getElem hlt,List.map_append,List.sum_append];simp
      have hle : ((s1.keys.take (j + 1)).map List.length).sum ≤ (s1.keys.map List.length).sum:=by
       have e : s1.keys.take (j + 1) ++ s1.keys.drop (j + 1) = s1.keys:=List.take_append_drop _ _
       have:=congrArg (fun l : List (List UInt8)=>(l.map List.length).sum) e
       simp only [List.map_append,List.sum_append] at this
       omega
      have hown : ownB s1 = s1.text.length + (s1.keys.map List.length).sum:=rfl
      have hsum2:=HD.out.2.2.2.2.2.2
      rw [hge] at hle
      generalize s1.keys[j] = kk at *
      generalize hsj : sm + s1.text.length + ((s1.keys.take j).map List.length).sum = sj at *
      have z3 : (sj : Int) + (kk.length : Int) ≤ 1099511627776:=by omega
      have hszk : (strB kk).size = kk.length:=rfl
      have q3:=Kac (o:=0) hI5.sum rfl
      have hst:=put_n (n:=(sj : Int) + (kk.length : Int)) (Kac (o:=0) hI5.sum rfl) (Kbe (o:=0) hI5.sum)
      have hI6:=hI5.setSum (by omega) (sj + kk.length)
      rw [Int.natCast_add] at hI6
      have hT6 : Touch (SC w) w₂ (wr.setCell ⟨w.heap.size + 2,0,none⟩ (.int .i64 ((sj : Int) + (kk.length : Int)))):=hT5.setCell (.inl (.inr (.inl rfl))) _
      have h66:=(Below.heap_setCell wr ⟨w.heap.size + 2,0,none⟩ (.int .i64 ((sj : Int) + (kk.length : Int))) b6 (by show b6 ≠ w.heap.size + 2;have:=HI.out.2.2.1;omega)).trans h65
      generalize wr.setCell ⟨w.heap.size + 2,0,none⟩ (.int .i64 ((sj : Int) + (kk.length : Int))) = w6 at *
      have hfin : sj + kk.length = sm + s1.text.length + ((s1.keys.take (j + 1)).map List.length).sum:=by omega
      rw [hfin] at hI6
      have HS:=yh hst
      have HF:=yh (And.intro hI6 (And.intro h66 hT6))
      clear hst hI5 hI6 hT5 hT6 h65 h66 hge hle hown hsum2 hfin hsj HJ
      refine wpIn_seq_k (fun K10 hK10=>?_)
      refine Kaq (by kernel_rfl) ?_
      go_wp2
      refine hK10 _ _ ?_
      refine Kaq (by kernel_rfl) ?_
      go_wp2_with (refine Kav rfl _ _ _ _ rfl rfl rfl HS.out ?_)
      refine hK9 _ _ ?_
      refine Kaq (by kernel_rfl) ?_
      go_wp2
      refine ⟨?_,by simp [intOf];omega⟩
      repeat apply Exists.intro
      exact ⟨⟨j + 1,hlt1,by go_num,HF⟩,rfl⟩
     ·obtain rfl : j = s1.keys.length:=by omega
      refine wpIn_seq_k (fun K7 hK7=>?_)
      refine Kaq (by kernel_rfl) ?_
      go_wp2
      refine hK7 _ _ ?_
      refine wpIn_seq_k (fun K8 hK8=>?_)
      refine wpIn_cond_false rfl ?_
      refine wpIn_exit ?_
      refine hK5 _ _ ?_
      obtain ⟨hI5,h65,hT5⟩:=HJ.out
      rw [List.take_length] at hI5
      have hsm : sm + s1.text.length + (s1.keys.map List.length).sum = sm':=by have:=HD.out.2.1;unfold ownB at this;omega
      rw [hsm] at hI5
      have hov:=HD.out.1
      rw [← HD.out.2.1] at hov
      have z5 : (sm' : Int) ≤ 1099511627776:=by have:=HD.out.2.1;have:=HD.out.2.2.2.2.2.2;omega
      have q4:=Kac (o:=0) hI5.over rfl
      have q65:=Kac (o:=5) h65 rfl
      have q3:=Kac (o:=0) hI5.sum rfl
      cases ob with
      | true =>
        have hob' : ob' = true:=by rw [hov];simp
        have hst:=put_b (n:=true) (Kac (o:=0) hI5.over rfl) (Kbe (o:=0) hI5.over)
        have hI6:=hI5.setOver (by omega) true
        have hT6 : Touch (SC w) w₂ (wr.setCell ⟨w.heap.size + 3,0,none⟩ (.bool true)):=hT5.setCell (.inl (.inr (.inr rfl))) _
        generalize wr.setCell ⟨w.heap.size + 3,0,none⟩ (.bool true) = w6 at *
        have HSt:=yh hst
        have HF:=yh (And.intro hT6 (And.intro hI6 hob'))
        clear hst hI5 hI6 hT5 hT6 h65 HJ hov hob' hsm
        refine Kaq (by kernel_rfl) ?_
        go_wp2_with (refine Kav rfl _ _ _ _ rfl rfl rfl HSt.out ?_)
        exact ⟨HF.out.1,by rw [HF.out.2.2];exact HF.out.2.1,HD.out.2.2.1⟩
      | false =>
        by_cases hd : 64 < d
        ·have hd1 : (64 : Int) < (d : Int):=by omega
         have hob' : ob' = true:=by rw [hov];simp [hd]
         have hst:=put_b (n:=true) (Kac (o:=0) hI5.over rfl) (Kbe (o:=0) hI5.over)
         have hI6:=hI5.setOver (by omega) true
         have hT6 : Touch (SC w) w₂ (wr.setCell ⟨w.heap.size + 3,0,none⟩ (.bool true)):=hT5.setCell (.inl (.inr (.inr rfl))) _
         generalize wr.setCell ⟨w.heap.size + 3,0,none⟩ (.bool true) = w6 at *
         have HSt:=yh hst
         have HF:=yh (And.intro hT6 (And.intro hI6 hob'))
         clear hst hI5 hI6 hT5 hT6 h65 HJ hov hob' hsm
         refine Kaq (by kernel_rfl) ?_
         go_wp2_with (refine Kav rfl _ _ _ _ rfl rfl rfl HSt.out ?_)
         exact ⟨HF.out.1,by rw [HF.out.2.2];exact HF.out.2.1,HD.out.2.2.1⟩
        by_cases hll : 65536 < s1.list.length
        ·have hl1 : (65536 : Int) < (s1.list.length : Int):=by omega
         have hob' : ob' = true:=by rw [hov];simp [hll]
         have hst:=put_b (n:=true) (Kac (o:=0) hI5.over rfl) (Kbe (o:=0) hI5.over)
         have hI6:=hI5.setOver (by omega) true
         have hT6 : Touch (SC w) w₂ (wr.setCell ⟨w.heap.size + 3,0,none⟩ (.bool true)):=hT5.setCell (.inl (.inr (.inr rfl))) _
         generalize wr.setCell ⟨w.heap.size + 3,0,none⟩ (.bool true) = w6 at *
         have HSt:=yh hst
         have HF:=yh (And.intro hT6 (And.intro hI6 hob'))
         clear hst hI5 hI6 hT5 hT6 h65 HJ hov hob' hsm
         refine Kaq (by kernel_rfl) ?_
         go_wp2_with (refine Kav rfl _ _ _ _ rfl rfl rfl HSt.out ?_)
         exact ⟨HF.out.1,by rw [HF.out.2.2];exact HF.out.2.1,HD.out.2.2.1⟩
        by_cases hbb : 1048576 < sm'
        ·have hb1 : (1048576 : Int) < (sm' : Int):=by omega
         have hob' : ob' = true:=by rw [hov];simp [hbb]
         have hst:=put_b (n:=true) (Kac (o:=0) hI5.over rfl) (Kbe (o:=0) hI5.over)
         have hI6:=hI5.setOver (by omega) true
         have hT6 : Touch (SC w) w₂ (wr.setCell ⟨w.heap.size + 3,0,none⟩ (.bool true)):=hT5.setCell (.inl (.inr (.inr rfl))) _
         generalize wr.setCell ⟨w.heap.size + 3,0,none⟩ (.bool true) = w6 at *
         have HSt:=yh hst
         have HF:=yh (And.intro hT6 (And.intro hI6 hob'))
         clear hst hI5 hI6 hT5 hT6 h65 HJ hov hob' hsm
         refine Kaq (by kernel_rfl) ?_
         go_wp2_with (refine Kav rfl _ _ _ _ rfl rfl rfl HSt.out ?_)
         exact ⟨HF.out.1,by rw [HF.out.2.2];exact HF.out.2.1,HD.out.2.2.1⟩
        ·have hob' : ob' = false:=by rw [hov];simp [hd,hll,hbb]
         have hd1 : decide ((64 : Int) < (d : Int)) = false:=by rw [decide_eq_false_iff_not];omega
         have hl1 : decide ((65536 : Int) < (s1.list.length : Int)) = false:=by rw [decide_eq_false_iff_not];omega
         have hb1 : decide ((1048576 : Int) < (sm' : Int)) = false:=by rw [decide_eq_false_iff_not];omega
         have hst:=put_b (n:=false) (Kac (o:=0) hI5.over rfl) (Kbe (o:=0) hI5.over)
         have hI6:=hI5.setOver (by omega) false
         have hT6 : Touch (SC w) w₂ (wr.setCell ⟨w.heap.size + 3,0,none⟩ (.bool false)):=hT5.setCell (.inl (.inr (.inr rfl))) _
         generalize wr.setCell ⟨w.heap.size + 3,0,none⟩ (.bool false) = w6 at *
         have HSt:=yh hst
         have HF:=yh (And.intro hT6 (And.intro hI6 hob'))
         clear hst hI5 hI6 hT5 hT6 h65 HJ hov hob' hsm
         refine Kaq (by kernel_rfl) ?_
         go_wp2_with (refine Kav rfl _ _ _ _ rfl rfl rfl HSt.out ?_)
         exact ⟨HF.out.1,by rw [HF.out.2.2];exact HF.out.2.1,HD.out.2.2.1⟩
 case hstop =>
  rintro c W ⟨rfl,hb,hres,hno⟩ hD
  refine wp_ret ?_
  have hp : Touch (fun b=>b = W1.heap.size) W (W.putObj W1.heap.size (.deferred none)):=(Touch.refl _ _).putObj (.inl (by exact rfl)) _
  refine leave_two (f:=142) (args:=#[.pointer (some ⟨w.heap.size + 1,0,none⟩)]) (by simp) hD (Kb2 Tryz.func142 rfl rfl _ _) ((caught_idle _ _).mono ?_)
  rintro e u' w' ⟨rfl,rfl,rfl⟩
  exact ⟨rfl,rfl,.int .i64 110,Ka3 rfl _ _ ⟨w.heap.size + 1,0,none⟩ _ rfl (Kag Tryz.underlying38 rfl (Kac (o:=0) (hp.heap hres (by omega)) rfl)),ret_int (by rw [HC.out,hno];rfl),Kc1 hb (by omega)⟩
 case hdone =>
  rintro xs W ⟨hok,hall⟩ ⟨hI,hgood⟩ hD
  rw [← hall] at hI hgood
  have hlt:=(Array.getElem?_eq_some_iff.1 hI.over).1
  cases hov : overB (preV 1 v) with
  | false =>
    rw [hov] at hI
    have q4:=Kac (o:=0) hI.over rfl
    have hst:=put_errno (n:=0) (Kac (o:=0) hI.res rfl) (Kbe (o:=0) hI.res)
    have hcell:=Kbs (k:=0) (.int .i64 0) hI.res
    have hb2:=Kce (b:=w.heap.size + 1) (o:=0) hI.below (by omega) (.int .i64 0)
    have hD2:=(Below.heap_setCell W ⟨w.heap.size + 1,0,none⟩ (.int .i64 0) W1.heap.size (by show W1.heap.size ≠ w.heap.size + 1;omega)).trans hD
    generalize hW2 : W.setCell ⟨w.heap.size + 1,0,none⟩ (.int .i64 0) = W2 at *
    have HS:=yh hst
    have HF:=yh (And.intro hcell (And.intro hb2 (And.intro hD2 (And.intro hgood (And.intro hov hs1)))))
    clear hok hall hI hgood hD hlt hst hcell hb2 hD2 hW2 hov hM hs1 ht hbt hsb
    go_wp2_with (refine Kav rfl _ _ _ _ rfl rfl rfl HS.out ?_)
    obtain ⟨hcell,hb2,hD2,hgood,hov,hs1⟩:=HF.out
    have hp : Touch (fun b=>b = W1.heap.size) W2 (W2.putObj W1.heap.size (.deferred none)):=(Touch.refl _ _).putObj (.inl (by exact rfl)) _
    refine leave_two (f:=142) (args:=#[.pointer (some ⟨w.heap.size + 1,0,none⟩)]) (by simp) hD2 (Kb2 Tryz.func142 rfl rfl _ _) ((caught_idle _ _).mono ?_)
    rintro e u' w' ⟨rfl,rfl,rfl⟩
    exact ⟨rfl,rfl,.int .i64 0,Ka3 rfl _ _ ⟨w.heap.size + 1,0,none⟩ _ rfl (Kag Tryz.underlying38 rfl (Kac (o:=0) (hp.heap hcell (by omega)) rfl)),ret_int (by rw [HC.out,hgood,hov];rfl),Kc1 hb2 (by omega)⟩
  | true =>
    rw [hov] at hI
    have q4:=Kac (o:=0) hI.over rfl
    have HF:=yh (And.intro hI (And.intro hD (And.intro hgood (And.intro hov hs1))))
    clear hok hall hI hgood hD hlt hov hM hs1 ht hbt hsb
    go_wp2
    obtain ⟨hI,hD,hgood,hov,hs1⟩:=HF.out
    have hp : Touch (fun b=>b = W1.heap.size) W (W.putObj W1.heap.size (.deferred none)):=(Touch.refl _ _).putObj (.inl (by exact rfl)) _
    have hres:=hp.heap hI.res (by omega)
    refine leave_two (f:=142) (args:=#[.pointer (some ⟨w.heap.size + 1,0,none⟩)]) (by simp) hD (Kb2 Tryz.func142 rfl rfl _ _) ((caught_great hres).mono ?_)
    rintro e u' w' ⟨rfl,rfl,h3,hT3⟩
    refine ⟨rfl,rfl,.int .i64 3,Ka3 rfl _ _ ⟨w.heap.size + 1,0,none⟩ _ rfl (Kag Tryz.underlying38 rfl (Kac (o:=0) h3 rfl)),ret_int (by rw [HC.out,hgood,hov];rfl),?_⟩
    have hb3:=Kc1 (o:=.deferred none) (l:=W1.heap.size) hI.below (by omega)
    exact hT3.below hb3 (fun b hb e=>by omega) hb3.size
mutual
def rngV : V → Prop
 | .mk _ _ n _ _ l=>(-9223372036854775808 ≤ n ∧ n ≤ 9223372036854775807) ∧ rngVs l
def rngVs : List V → Prop
 | []=>True
 | a :: x=>rngV a ∧ rngVs x
end
theorem rngV_mk {k : Int} {b : Bool} {n : Int} {t : List UInt8} {ks : List (List UInt8)} {l : List V} : rngV (.mk k b n t ks l) ↔ (-9223372036854775808 ≤ n ∧ n ≤ 9223372036854775807) ∧ rngVs l:=by rw [rngV]
theorem rngVs_iff {l : List V} : rngVs l ↔ ∀ v ∈ l,rngV v:=by
 induction l with
 | nil=>simp [rngVs]
 | cons a x ih=>simp [rngVs,ih]
theorem info_str : ∃ i,Tryz.prog.info? 9 = some i ∧ i.zero = some (.string ⟨#[]⟩) ∧ i.size = 1 ∧ i.bytes = 16:=info_parts (by kernel_rfl)
def SInv (w W : World) (x : Array Value) (o : Value) (m : List (List UInt8)) : Prop:=OwnsP W (fun b=>w.heap.size + 1 ≤ b) 9 1 o m.length (m.map strV) ∧ OneB w W x
theorem SInv.start {w W : World} {x : Array Value} (h : OneB w W x) : SInv w W x (.slice none 0 0) []:=⟨⟨⟨rfl,.inl ⟨rfl,rfl⟩⟩,fun g hg=>by simp [Value.ownBlock] at hg⟩,h⟩
theorem SInv.below {w W W' : World} {x : Array Value} {o : Value} {m : List (List UInt8)} (h : SInv w W x o m) (g : Below W.heap.size W W') : SInv w W' x o m :=
 ⟨h.1.keep fun b _ hb=>g.block b hb,h.2.below g⟩
theorem append_str {w : World} {vl : Value} {n : Nat} {ys : List Value} (hown : w.ownsRow 0 9 1 vl n ys) {g : Nat} {S : ByteArray}
 (hc : w.heap[g]? = some (.cells #[.string S] 9 (0,0))) (hn : n ≤ 1100000) (ty : TypeId) :
 ∃ v' w',(Builtin.append_ #[26,26] ty #[vl,.slice (some ⟨g,0,none⟩) 1 1]).run Tryz.prog w = .ok v' w' ∧ w'.ownsRow 0 9 1 v' (n + 1) (ys ++ [.string S]) ∧ Touch (fun b=>vl.ownBlock = some b) w w' ∧
  (v'.ownBlock = vl.ownBlock ∨ v'.ownBlock = some w.heap.size) ∧ w.heap.size ≤ w'.heap.size:=by
 obtain ⟨i,i1,i2,i3,i4⟩:=info_str
 exact Kco (P:=Tryz.prog) (w:=w) 26 ty 9 i _ 1 16 Tryz.underlying26 i1 i2 i3 i4 rfl vl n ys hown ⟨g,0,none⟩ 1 1 [.string S] (by simp) (fun j u hu=>by
  rw [Kap,Nat.zero_add];exact Kac hc (by simpa using hu)) (by simp [Value.oneCell']) (by unfold maxLen;omega) (by omega)
theorem SInv.step {w W W1 : World} {x : Array Value} {o : Value} {m : List (List UInt8)} (h : SInv w W x o m) (hb : Below W.heap.size W W1) (S : ByteArray) (s : List UInt8) (hS : S = strB s) (hm : m.length ≤ 1100000) (ty : TypeId) :
 ∃ v' W2,(Builtin.append_ #[26,26] ty #[o,.slice (some ⟨W1.heap.size,0,none⟩) 1 1]).run Tryz.prog (W1.alloc (.cells #[.string S] 9)) = .ok v' W2 ∧ SInv w W2 x v' (m ++ [s]):=by
 subst hS
 obtain ⟨h1,h2⟩:=(h.below hb).below (Kad (.cells #[.string (strB s)] 9))
 obtain ⟨v',W2,a1,a2,a3,a4,a5⟩:=append_str h1.1 (heap_alloc_new W1 _) hm ty
 have hsz:=h2.2.size
 have hlt:=(Array.getElem?_eq_some_iff.1 h2.1).1
 refine ⟨v',W2,a1,⟨?_,fun g hg=>?_⟩,?_,?_⟩
 ·rw [List.map_append,List.length_append]
  exact a2
 ·rcases a4 with e | e
  ·exact h1.2 g (e.symm.trans hg)
  ·rw [e] at hg
   cases hg
   omega
 ·rw [a3.block _ hlt (fun e=>by have:=h1.2 _ e;omega)]
  exact h2.1
 ·exact a3.below h2.2 (fun b hb e=>by have:=h1.2 b e;omega) hsz
end Go.Proofs.YtihfnegakcghiaaGreatDoor
namespace Go.Proofs.YtihfnegakcghiaaGreatDoor
open Go.ChangeShapes Go.WideShapes Go.ChangeAt Go.RowKit
theorem ownT : ownKnob Tryz.prog.godebug = none:=by kernel_rfl
theorem post_of_below {H : Type} {enc : TypeId × Value → H} {P : Program} {f : Func} {s : ChangeSpec} {apart fresh handsOn again : Bool} {W W' : World} {args : Array Value} {v : Value} {ds gs : List (DataW H)} {before pa pv : List MemPlace}
 (hW : DataW.Whole enc P f.params.toList s.vars apart W args.toList ds gs before)
 (hres : ∀ (b : Nat) (sp : Nat → Bool) (hd : Bool),DataW.TrodAll enc P W' b sp hd f.resultTypes.toList (v.resultList f.resultTypes.size) (s.fn H (ds ++ gs)).results [])
 (hargs : ∀ sp : Nat → Bool,(∀ p ∈ before,sp p.block = true) → DataW.TrodAll enc P W' 0 sp true f.params.toList args.toList (s.fn H (ds ++ gs)).args pa)
 (hvars : ∀ sp : Nat → Bool,(∀ p ∈ before,sp p.block = true) → DataW.TrodVars enc P W' sp s.vars (s.fn H (ds ++ gs)).vars pv)
 (hps : before = pa ++ pv) (hb : Below W.heap.size W W')
 (hok : ∀ (j : Nat) (t : TypeId) (r : Value),f.resultTypes[j]? = some t → (v.resultList f.resultTypes.size)[j]? = some r → Value.okWide P W' .any 0 t r) :
 s.post enc P f apart fresh handsOn again W args v W':=by
 have hlt : ∀ p ∈ before,p.block < W.heap.size:=fun p hp=>hW.lt p hp
 have hold : ∀ p ∈ before,(fun b=>decide (b < W.heap.size)) p.block = true:=fun p hp=>by simpa using hlt p hp
 refine ⟨ds,gs,before,[],pa,pv,hW,hres _ _ _,hargs _ hold,hvars _ hold,World.keptBut_mono (fun p hp=>⟨hp,?_⟩) (hb.frame (· ∈ before)),fun _=>?_⟩
 ·rw [hps,List.mem_append] at hp
  exact Or.inr hp
 ·obtain ⟨_,_,_,_,_,hz,hn⟩:=hW
  refine ⟨hok,_,_,([] ++ pa) ++ pv,⟨[] ++ pa,pv,trodAll_append (hargs _ (fun _ _=>rfl)) (hres _ _ _),hvars _ (fun _ _=>rfl),rfl,?_,?_⟩,?_⟩
  ·intro b off hp
   have hin : MemPlace.cell b off ∈ before:=by rw [hps];simpa using hp
   rw [hb.frozen (hlt _ hin)]
   exact hz b off hin
  ·intro ha
   have:=hn ha
   rw [hps] at this
   simpa using this
  ·intro p hp _
   rw [hps]
   simpa using hp
end Go.Proofs.YtihfnegakcghiaaGreatDoor
namespace Go.Proofs.YtihfnegakcghiaaGreatDoor
open Go.ChangeShapes Go.WideShapes Go.ChangeAt Go.RowKit
theorem laidT : laidOutB Tryz.prog = true:=by kernel_rfl
theorem trodAll_stays {H : Type} {enc : TypeId × Value → H} {P : Program} (hl : laidOutB P = true) {W W' : World} {sp : Nat → Bool} : ∀ (ts : List TypeId) (vs : List Value) (ds : List (DataW H)) (ps : List MemPlace),
 (∀ t ∈ ts,P.readableRec t = true ∧ t < P.types.size) → DataW.TrodAll enc P W 0 (fun _=>true) true ts vs ds ps → Below W.heap.size W W' → (∀ p ∈ ps,p.block < W.heap.size) → (∀ p ∈ ps,sp p.block = true) → DataW.TrodAll enc P W' 0 sp true ts vs ds ps
 | [],[],[],_,_,h,_,_,_=>h
 | t :: ts,v :: vs,d :: ds,_,ht,⟨p,q,h1,h2,e⟩,hb,hlt,hs=>by
   subst e
   refine ⟨p,q,WideElems.Trod_stays hl (ht t (by simp)).1 (ht t (by simp)).2 h1 (fun x hx=>hb.same (hlt x (List.mem_append_left _ hx))) (fun x hx=>hs x (List.mem_append_left _ hx)),?_,rfl⟩
   exact trodAll_stays hl ts vs ds q (fun t' h'=>ht t' (by simp [h'])) h2 hb (fun x hx=>hlt x (List.mem_append_right _ hx)) (fun x hx=>hs x (List.mem_append_right _ hx))
theorem law_post {H : Type} {enc : TypeId × Value → H} {P : Program} {f : Func} {s : ChangeSpec} {apart fresh handsOn again : Bool} {tb : TypeId} {W W' : World} {args : Array Value} {ds gs : List (DataW H)} {before : List MemPlace}
 (hl : laidOutB P = true) (ht : ∀ t ∈ f.params.toList,P.readableRec t = true ∧ t < P.types.size) (htb : P.underlying tb = some .bool) (hres : f.resultTypes = #[tb]) (hvs : s.vars = [])
 (hW : DataW.Whole enc P f.params.toList s.vars apart W args.toList ds gs before) (hsp : s.fn H ds = { results:=[.lit (.bool true)],args:=ds }) (hb : Below W.heap.size W W') :
 s.post enc P f apart fresh handsOn again W args (.bool true) W':=by
 have hW':=hW
 obtain ⟨p,q,hA,hV,rfl,hfz,hnd⟩:=hW
 rw [hvs] at hV
 obtain ⟨rfl,rfl⟩:=trodVars_none hV
 have hlt : ∀ x ∈ p,x.block < W.heap.size:=fun x hx=>hW'.lt x (by simp [hx])
 have e : s.fn H (ds ++ []) = { results:=[.lit (.bool true)],args:=ds }:=by rw [List.append_nil];exact hsp
 refine post_of_below (pa:=p) (pv:=[]) hW' (fun b sp hd=>?_) (fun sp hs=>?_) (fun sp hs=>?_) rfl hb (ok_one hres (by simp [hres,Value.resultList]) (okWide_bool_mk htb _))
 ·rw [e,hres];exact trodAll_cons_mk (shut_bool htb _) trodAll_mk0
 ·rw [e];exact trodAll_stays hl _ _ _ _ ht hA hb hlt (fun x hx=>hs x (by simp [hx]))
 ·rw [e,hvs];rfl
section
variable {H : Type} {enc : TypeId × Value → H} {P : Program} {w : World} {base : Nat} {spare : Nat → Bool} {held : Bool}
end
end Go.Proofs.YtihfnegakcghiaaGreatDoor
namespace Go.Proofs.YtihfnegakcghiaaGreatDoor
open Go.ChangeShapes Go.WideShapes Go.ChangeAt Go.RowKit Go.Joins
instance : Inhabited V:=⟨.mk 0 false 0 [] [] []⟩
theorem cells26 : Tryz.prog.cellsOf 31 = 6:=by kernel_rfl
theorem cells24 : Tryz.prog.cellsOf 29 = 1:=by kernel_rfl
theorem cells23 : Tryz.prog.cellsOf 26 = 1:=by kernel_rfl
theorem cells9 : Tryz.prog.cellsOf 9 = 1:=by kernel_rfl
theorem cells4 : Tryz.prog.cellsOf 4 = 1:=by kernel_rfl
theorem cells2 : Tryz.prog.cellsOf 2 = 1:=by kernel_rfl
theorem cells22 : Tryz.prog.cellsOf 28 = 1:=by kernel_rfl
theorem bytes9 : Tryz.prog.bytesOf 9 = 16:=by kernel_rfl
theorem bytes26 : Tryz.prog.bytesOf 31 = 88:=by kernel_rfl
theorem strB_back (s : ByteArray) : strB s.data.toList = s:=by cases s;simp [strB]
def Fits {H : Type} (t : TypeId) (d : DataW H) : Prop:=∀ n ∈ d.weights Tryz.prog t,n ≤ 140737488351232
theorem Fits.of {H : Type} {t : TypeId} {d : DataW H} (h : (d.weights Tryz.prog t).all (· ≤ reachBytes) = true) : Fits t d:=by
 intro n hn
 exact (of_decide_eq_true (List.all_eq_true.1 h n hn) : n ≤ reachBytes)
theorem Kdg {H : Type} {t : TypeId} {l : List UInt8} (h : Fits (H:=H) t (.lit (.string l))) : l.length ≤ 140737488351232:=h _ (by simp [DataW.weights])
theorem weightsAll_mem {H : Type} {e : TypeId} {d : DataW H} : ∀ {l : List (DataW H)},d ∈ l → ∀ n ∈ d.weights Tryz.prog e,n ∈ DataW.weightsAll Tryz.prog e l:=by
 intro l
 induction l with
 | nil=>intro h;simp at h
 | cons a r ih =>
   intro h n hn
   rw [DataW.weightsAll,List.mem_append]
   rcases List.mem_cons.1 h with rfl | h
   ·exact .inl hn
   ·exact .inr (ih h n hn)
theorem fits_slice {H : Type} {t e : TypeId} (ht : Tryz.prog.underlying t = some (.slice e)) {l m : List (DataW H)} (h : Fits t (.slice l m)) : l.length * Tryz.prog.bytesOf e ≤ 140737488351232 ∧ ∀ d ∈ l,Fits e d:=by
 have h0:=h
 unfold Fits at h0
 rw [DataW.weights,ht] at h0
 refine ⟨?_,fun d hd n hn=>h0 n (List.mem_cons_of_mem _ (List.mem_append_left _ (weightsAll_mem hd n hn)))⟩
 have:=h0 _ (List.mem_cons_self ..)
 exact Nat.le_trans (Nat.mul_le_mul_right _ (by omega)) this
section
variable {H : Type} {enc : TypeId × Value → H} {w : World} {base : Nat} {held : Bool}
theorem int_rng {n : Int} (h : (Lit.int .i64 n).wf = true) : -9223372036854775808 ≤ n ∧ n ≤ 9223372036854775807:=by
 simp [Lit.wf,IntKind.min,IntKind.max,IntKind.signed,IntKind.bits] at h
 omega
theorem weights_struct {d0 d1 d2 d3 d4 d5 : DataW H} (h : Fits 31 (.agg [d0,d1,d2,d3,d4,d5])) : Fits 9 d3 ∧ Fits 26 d4 ∧ Fits 29 d5:=by
 unfold Fits at h
 rw [DataW.weights,Tryz.underlying31] at h
 simp only [List.map_cons,List.map_nil,DataW.weightsEach,List.append_nil,List.mem_append] at h
 exact ⟨fun n hn=>h n (by simp [hn]),fun n hn=>h n (by simp [hn]),fun n hn=>h n (by simp [hn])⟩
end
end Go.Proofs.YtihfnegakcghiaaGreatDoor
namespace Go.Proofs.YtihfnegakcghiaaGreatDoor
open Go.ChangeShapes Go.WideShapes Go.ChangeAt Go.RowKit Go.Joins
def LD : List (String × DataW Unit) := [("unicode/utf8.acceptRanges", Rows.laid_unicode_utf8_acceptRanges), ("unicode/utf8.first", Rows.laid_unicode_utf8_first)]
theorem first_eq : Rows.laid_unicode_utf8_first = Lib.firstData:=by kernel_rfl
theorem accept_eq : Rows.laid_unicode_utf8_acceptRanges = Lib.acceptData:=by kernel_rfl
theorem varTabs {W : World} (h3 : Lib.VarReads Tryz.prog W "unicode/utf8.first" Lib.firstData) (h4 : Lib.VarReads Tryz.prog W "unicode/utf8.acceptRanges" Lib.acceptData) : Lib.Utf8Tabs 0 1 W := by
 have hc5 : Tryz.prog.cellsOf 5 = 1:=by kernel_rfl
 refine ⟨fun c hc=>?_,fun i hi=>?_⟩
 ·obtain ⟨g,t,cs,fuel,p,hg,hty,hvar,hd⟩:=h3
  have eg : g = 0:=Option.some.inj (hg.symm.trans (by kernel_rfl))
  subst eg
  have et : t = 195:=Option.some.inj (hty.symm.trans (by kernel_rfl))
  subst et
  have hcs:=Lib.cells_of_tab Tryz.underlying195 Tryz.underlying5 hc5 (by kernel_rfl) hd
  rw [World.var?_cell hg hvar c,← Array.getElem?_toList,hcs]
  simp [Lib.firstTab,hc]
 ·obtain ⟨g,t,cs,fuel,p,hg,hty,hvar,hd⟩:=h4
  have eg : g = 1:=Option.some.inj (hg.symm.trans (by kernel_rfl))
  subst eg
  have et : t = 198:=Option.some.inj (hty.symm.trans (by kernel_rfl))
  subst et
  obtain ⟨fuel',d,q,hdi,he⟩:=Lib.array_elem Tryz.underlying198 hd i hi
  have hc2 : Tryz.prog.cellsOf 197 = 2:=by kernel_rfl
  simp only [List.getElem?_map,List.getElem?_range hi,Option.map_some,Option.some.injEq] at hdi
  subst hdi
  rw [hc2] at he
  have hcs:=Lib.ints_of_struct Tryz.underlying197 (k:=.u8) (fun j f hj=>by
   match j,hj with
   | 0,hj=>simp at hj;subst hj;exact ⟨Tryz.underlying5,rfl,hc5⟩
   | 1,hj=>simp at hj;subst hj;exact ⟨Tryz.underlying5,rfl,hc5⟩
   | j + 2,hj=>simp at hj) (by rw [hc2];rfl) he
  have e0:=congrArg (·[0]?) hcs
  have e1:=congrArg (·[1]?) hcs
  simp only [List.getElem?_take,List.getElem?_drop] at e0 e1
  constructor
  ·rw [World.var?_cell hg hvar (2 * i),← Array.getElem?_toList]
   simpa [Nat.mul_comm] using e0
  ·rw [World.var?_cell hg hvar (2 * i + 1),← Array.getElem?_toList]
   simpa [Nat.mul_comm] using e1
theorem env_of {W : World} (hL : laidMetH Tryz.prog LD W) (hsh : W.ShapedOpen Tryz.prog) : Env W:=by
 rw [MakeChecks.laidMetH_plain _ _ _ (by kernel_rfl)] at hL
 have r1 := Lib.laidMet.reads hL (n := "unicode/utf8.first") (d := Rows.laid_unicode_utf8_first) (.tail _ (.head _))
 have r2 := Lib.laidMet.reads hL (n := "unicode/utf8.acceptRanges") (d := Rows.laid_unicode_utf8_acceptRanges) (.head _)
 rw [first_eq] at r1
 rw [accept_eq] at r2
 have hml : ∃ m,W.cell? ⟨2,0,none⟩ = some (.int .i64 m):=cell_of_shapedOpen_int (zero:=#[.int .i64 0]) (t:=3) hsh (of_decide_eq_true (by kernel_rfl)) (by kernel_rfl) rfl (by kernel_rfl) (by kernel_rfl) Tryz.underlying3
 refine ⟨varTabs r1 r2,hml,?_⟩
 have hlt : ∀ (g : Nat) {n : String} {d : DataW Unit},Lib.VarReads Tryz.prog W n d → Tryz.prog.globalNamed n = some g → g < W.heap.size:=fun g n d hr hn=>by
  obtain ⟨g',t,cs,fuel,p,hg,hty,hvar,hd⟩:=hr
  rcases Nat.lt_or_ge g W.heap.size with h | h
  ·exact h
  ·exfalso
   have eg : g' = g:=Option.some.inj (hg.symm.trans hn)
   subst eg
   unfold World.var? at hvar
   rw [hg] at hvar
   have e : W.heap[g']? = none:=Array.getElem?_eq_none h
   simp [e] at hvar
 have h1:=hlt 0 r1 (by kernel_rfl)
 have h2:=hlt 1 r2 (by kernel_rfl)
 obtain ⟨m0,hm0⟩:=hml
 have h3:=ltOf hm0
 have hmax : 2 = 0 ∨ 2 = 1 ∨ 2 = 2:=by decide
 omega
theorem wit_laid (os : Os) (args0 : Array Value) : laidMetH Tryz.prog LD ((World.laidAll Tryz.prog os LD).forCall (fun _ _=>0) ⟨#[],args0,[]⟩).memory:=by
 rw [MakeChecks.laidMetH_plain _ _ _ (by kernel_rfl)];exact laidMet_laidAll _ (by kernel_rfl) (by kernel_rfl)
theorem fits_each {H : Type} {t : TypeId} {ts : List TypeId} {d : DataW H} {ds : List (DataW H)} (h : (DataW.weightsEach Tryz.prog (t :: ts) (d :: ds)).all (· ≤ reachBytes) = true) : Fits t d ∧ (DataW.weightsEach Tryz.prog ts ds).all (· ≤ reachBytes) = true:=by
 rw [DataW.weightsEach,List.all_append,Bool.and_eq_true] at h
 exact ⟨Fits.of h.1,h.2⟩
theorem fits_one {H : Type} {t : TypeId} {us : List TypeId} {d : DataW H} (h : (DataW.weightsEach Tryz.prog ([t] ++ us) ([d] ++ [])).all (· ≤ reachBytes) = true) : Fits t d:=(fits_each h).1
end Go.Proofs.YtihfnegakcghiaaGreatDoor
namespace Go.Proofs.YtihfnegakcghiaaGreatDoor
open Go.RowKit
structure GT (P : Program) (t T : TypeId) (K : Nat) : Prop where
 app : ∀ {w : World} {vl : Value} {n : Nat} {ys : List Value},w.ownsRow 0 t K vl n ys → ∀ {g : Nat} {x : Array Value},x.size = K → (∀ u ∈ x.toList,u.oneCell' = true) → w.heap[g]? = some (.cells x t (0,0)) → n ≤ 1100000 → ∀ ty : TypeId,
  ∃ v' w',(Builtin.append_ #[T,T] ty #[vl,.slice (some ⟨g,0,none⟩) 1 1]).run P w = .ok v' w' ∧ w'.ownsRow 0 t K v' (n + 1) (ys ++ x.toList) ∧ Touch (fun b=>vl.ownBlock = some b) w w' ∧
   (v'.ownBlock = vl.ownBlock ∨ v'.ownBlock = some w.heap.size) ∧ w.heap.size ≤ w'.heap.size
theorem GT.of {P : Program} {t T : TypeId} {K bytes : Nat} {z : Value} (hT : P.underlying T = some (.slice t)) (h : ∃ i,P.info? t = some i ∧ i.zero = some z ∧ i.size = K ∧ i.bytes = bytes) (hz : z.cells.size = K) (hb : bytes ≤ 100000000) : GT P t T K:=by
 refine ⟨?_⟩
 intro w vl n ys hown g x hK h1 hc hn ty
 obtain ⟨i,i1,i2,i3,i4⟩:=h
 exact Kco (P:=P) (w:=w) T ty t i z K bytes hT i1 i2 i3 i4 hz vl n ys hown ⟨g,0,none⟩ 1 1 x.toList (by simp [hK]) (fun j u hu=>by
  rw [Kap,Nat.zero_add];exact Kac hc (by simpa using hu)) h1 (by unfold maxLen;omega) (by
   have : (n + 1) * bytes ≤ 1100001 * 100000000:=Nat.mul_le_mul (by omega) hb
   omega)
structure EL {α : Type} (E : World → (Nat → Prop) → α → Array Value → Prop) (K : Nat) : Prop where
 keep : ∀ {w w' : World} {P : Nat → Prop} {x : α} {a : Array Value},(∀ b,P b → b < w.heap.size → w'.heap[b]? = w.heap[b]?) → E w P x a → E w' P x a
 imp : ∀ {w : World} {P P' : Nat → Prop} {x : α} {a : Array Value},(∀ b,b < w.heap.size → P b → P' b) → E w P x a → E w P' x a
 size : ∀ {w : World} {P : Nat → Prop} {x : α} {a : Array Value},E w P x a → a.size = K
 ones : ∀ {w : World} {P : Nat → Prop} {x : α} {a : Array Value},E w P x a → ∀ u ∈ a.toList,u.oneCell' = true
section
variable {α : Type} {E : World → (Nat → Prop) → α → Array Value → Prop} {K : Nat} {Pg : Program} {t T : TypeId} {w w' W W1 : World} {P P' : Nat → Prop} {l m : List α} {xs ys : List (Array Value)}
def GOwns (E : World → (Nat → Prop) → α → Array Value → Prop) (w : World) (P : Nat → Prop) (l : List α) (xs : List (Array Value)) : Prop:=xs.length = l.length ∧ ∀ (j : Nat) (v : α),l[j]? = some v → ∃ x,xs[j]? = some x ∧ E w P v x
theorem GOwns.nil : GOwns E w P [] []:=⟨rfl,fun j v h=>by simp at h⟩
theorem GOwns.snoc {v : α} {x : Array Value} (h : GOwns E w P l xs) (hx : E w P v x) : GOwns E w P (l ++ [v]) (xs ++ [x]):=by
 refine ⟨by simp [h.1],fun j u hu=>?_⟩
 by_cases hj : j < l.length
 ·rw [List.getElem?_append_left hj] at hu
  obtain ⟨y,h1,h2⟩:=h.2 j u hu
  exact ⟨y,by rw [List.getElem?_append_left (by rw [h.1];exact hj)];exact h1,h2⟩
 ·rw [List.getElem?_append_right (by omega)] at hu
  have hj2 : j - l.length = 0:=by
   by_cases e : j - l.length = 0
   ·exact e
   ·rw [List.getElem?_eq_none (by simp;omega)] at hu;cases hu
  rw [hj2] at hu
  cases hu
  exact ⟨x,by rw [List.getElem?_append_right (by rw [h.1];omega),h.1,hj2];rfl,hx⟩
theorem GOwns.mem (h : GOwns E w P l xs) {x : Array Value} (hx : x ∈ xs) : ∃ v ∈ l,E w P v x:=by
 obtain ⟨j,hj,rfl⟩:=List.getElem_of_mem hx
 have hj2 : j < l.length:=by rw [← h.1];exact hj
 obtain ⟨y,h1,h2⟩:=h.2 j l[j] (List.getElem?_eq_getElem hj2)
 rw [List.getElem?_eq_getElem hj] at h1
 cases h1
 exact ⟨_,List.getElem_mem hj2,h2⟩
theorem GOwns.keep (hE : EL E K) (hk : ∀ b,P b → b < w.heap.size → w'.heap[b]? = w.heap[b]?) (h : GOwns E w P l xs) : GOwns E w' P l xs :=
 ⟨h.1,fun j v hv=>by obtain ⟨x,h1,h2⟩:=h.2 j v hv;exact ⟨x,h1,hE.keep hk h2⟩⟩
theorem GOwns.imp (hE : EL E K) (hp : ∀ b,b < w.heap.size → P b → P' b) (h : GOwns E w P l xs) : GOwns E w P' l xs :=
 ⟨h.1,fun j v hv=>by obtain ⟨x,h1,h2⟩:=h.2 j v hv;exact ⟨x,h1,hE.imp hp h2⟩⟩
theorem GOwns.below (hE : EL E K) (h : GOwns E w P l xs) (g : Below w.heap.size w w') : GOwns E w' P l xs:=h.keep hE fun b _ hb=>g.block b hb
def GOwn (E : World → (Nat → Prop) → α → Array Value → Prop) (t : TypeId) (K : Nat) (w : World) (P : Nat → Prop) (vl : Value) (l : List α) : Prop:=∃ xs,OwnsP w P t K vl l.length (xs.flatMap Array.toList) ∧ GOwns E w P l xs
theorem GOwn.keep {vl : Value} (hE : EL E K) (hk : ∀ b,P b → b < w.heap.size → w'.heap[b]? = w.heap[b]?) (h : GOwn E t K w P vl l) : GOwn E t K w' P vl l:=by
 obtain ⟨xs,h1,h2⟩:=h;exact ⟨xs,h1.keep hk,h2.keep hE hk⟩
theorem GOwn.imp {vl : Value} (hE : EL E K) (hp : ∀ b,b < w.heap.size → P b → P' b) (h : GOwn E t K w P vl l) : GOwn E t K w P' vl l:=by
 obtain ⟨xs,h1,h2⟩:=h;exact ⟨xs,h1.imp hp,h2.imp hE hp⟩
theorem GOwn.below {vl : Value} (hE : EL E K) (h : GOwn E t K w P vl l) (g : Below w.heap.size w w') : GOwn E t K w' P vl l:=h.keep hE fun b _ hb=>g.block b hb
theorem GOwn.nil : GOwn E t K w P (.slice none 0 0) ([] : List α):=⟨[],⟨⟨by simp,.inl ⟨rfl,rfl⟩⟩,fun g hg=>by simp [Value.ownBlock] at hg⟩,.nil⟩
theorem GOwn.slice {vl : Value} (h : GOwn E t K w P vl l) : ∃ p c,vl = .slice p l.length c:=by obtain ⟨xs,h1,_⟩:=h;exact Kbb h1
theorem own_one {t : TypeId} {vl : Value} {n : Nat} {zs : List Value} (h : OwnsP w P t K vl n zs) : vl.oneCell' = true:=by
 rcases h.1.2 with ⟨rfl,_⟩ | ⟨g,cap,cur,rfl,_⟩ <;> rfl
def GInv (E : World → (Nat → Prop) → α → Array Value → Prop) (t : TypeId) (K : Nat) (w W : World) (ov : Value) (m : List α) : Prop:=∃ xs,OwnsP W (fun b=>w.heap.size ≤ b) t K ov m.length (xs.flatMap Array.toList) ∧ GOwns E W (fun b=>w.heap.size ≤ b ∧ ov.ownBlock ≠ some b) m xs ∧ Below w.heap.size w W
theorem GInv.b {ov : Value} (h : GInv E t K w W ov l) : Below w.heap.size w W:=by obtain ⟨_,_,_,h⟩:=h;exact h
theorem GInv.below (hE : EL E K) {W' : World} {ov : Value} (h : GInv E t K w W ov l) (g : Below W.heap.size W W') : GInv E t K w W' ov l:=by
 obtain ⟨xs,h1,h2,h3⟩:=h
 exact ⟨xs,h1.keep fun b _ hb=>g.block b hb,h2.below hE g,Kaa h3 g⟩
theorem GInv.kept (hE : EL E K) {W' : World} {ov : Value} (h : GInv E t K w W ov l) (g : ∀ b,w.heap.size ≤ b → b < W.heap.size → W'.heap[b]? = W.heap[b]?) (hb : Below w.heap.size w W') : GInv E t K w W' ov l:=by
 obtain ⟨xs,h1,h2,h3⟩:=h
 exact ⟨xs,h1.keep fun b hb h=>g b hb h,h2.keep hE fun b hb h=>g b hb.1 h,hb⟩
theorem GInv.start (h : Below w.heap.size w W) : GInv E t K w W (.slice none 0 0) ([] : List α):=⟨[],⟨⟨by simp,.inl ⟨rfl,rfl⟩⟩,fun g hg=>by simp [Value.ownBlock] at hg⟩,.nil,h⟩
theorem GInv.own (hE : EL E K) {ov : Value} (h : GInv E t K w W ov l) : GOwn E t K W (fun b=>w.heap.size ≤ b) ov l:=by
 obtain ⟨xs,h1,h2,h3⟩:=h
 exact ⟨xs,h1,h2.imp hE fun b _ hb=>hb.1⟩
theorem GInv.slice {ov : Value} (h : GInv E t K w W ov l) : ∃ p c,ov = .slice p l.length c:=by obtain ⟨xs,h1,_⟩:=h;exact Kbb h1
theorem GInv.step (hE : EL E K) (hG : GT Pg t T K) {ov : Value} {v : α} {x : Array Value} {base : Nat} (h : GInv E t K w W ov m) (hbase : W.heap.size ≤ base) (hb : ∀ b,w.heap.size ≤ b → b < W.heap.size → W1.heap[b]? = W.heap[b]?) (hbw : Below w.heap.size w W1) (hsz : W.heap.size ≤ W1.heap.size) (hx : E W1 (fun b=>base ≤ b) v x) (hm : m.length ≤ 1100000) (ty : TypeId) :
 ∃ v' W2,(Builtin.append_ #[T,T] ty #[ov,.slice (some ⟨W1.heap.size,0,none⟩) 1 1]).run Pg (W1.alloc (.cells x t)) = .ok v' W2 ∧ GInv E t K w W2 v' (m ++ [v]) ∧ Touch (fun b=>ov.ownBlock = some b) (W1.alloc (.cells x t)) W2:=by
 have hnew : Below W1.heap.size W1 (W1.alloc (.cells x t)):=Kad _
 have hlt : ∀ g,ov.ownBlock = some g → g < W.heap.size:=by
  obtain ⟨xs,h1,_⟩:=h
  exact fun g hg=>(h1.1.lt g hg).2
 obtain ⟨xs,h1,h2,h3⟩:=(h.kept hE hb hbw).below hE hnew
 have hx' : E (W1.alloc (.cells x t)) (fun b=>base ≤ b) v x:=hE.keep (fun b _ hb=>hnew.block b hb) hx
 have hwW : w.heap.size ≤ W.heap.size:=by obtain ⟨_,_,_,h⟩:=h;exact h.size
 obtain ⟨v',W2,a1,a2,a3,a4,a5⟩:=hG.app h1.1 (hE.size hx) (hE.ones hx) (heap_alloc_new W1 _) hm ty
 refine ⟨v',W2,a1,⟨xs ++ [x],⟨?_,fun g hg=>?_⟩,?_,?_⟩,a3⟩
 ·rw [List.flatMap_append,List.length_append]
  simpa using a2
 ·rcases a4 with e | e
  ·exact h1.2 g (e.symm.trans hg)
  ·rw [e] at hg
   cases hg
   have:=h3.size
   omega
 ·have hs : GOwns E (W1.alloc (.cells x t)) (fun b=>w.heap.size ≤ b ∧ ov.ownBlock ≠ some b ∧ b < (W1.alloc (.cells x t)).heap.size) (m ++ [v]) (xs ++ [x]) :=
   (h2.imp hE fun b hb hp=>⟨hp.1,hp.2,hb⟩).snoc (hE.imp (fun b hb hp=>⟨by omega,fun e=>by have:=hlt b e;omega,hb⟩) hx')
  refine (hs.keep hE (w':=W2) fun b hp hb=>a3.block b hb hp.2.1).imp hE fun b _ hp=>⟨hp.1,?_⟩
  rcases a4 with e | e
  ·rw [e];exact hp.2.1
  ·rw [e];intro e2;cases e2;have:=hp.2.2;omega
 ·exact a3.below h3 (fun b hb e=>by have:=h1.2 b e;omega) h3.size
def GIn (E : World → (Nat → Prop) → α → Array Value → Prop) (t : TypeId) (K : Nat) (P : Nat → Prop) (W : World) (ov : Value) (m : List α) : Prop:=∃ xs,OwnsP W P t K ov m.length (xs.flatMap Array.toList) ∧ GOwns E W (fun b=>P b ∧ ov.ownBlock ≠ some b) m xs
theorem GIn.start {P : Nat → Prop} : GIn E t K P W (.slice none 0 0) ([] : List α):=⟨[],⟨⟨by simp,.inl ⟨rfl,rfl⟩⟩,fun g hg=>by simp [Value.ownBlock] at hg⟩,.nil⟩
theorem GIn.kept (hE : EL E K) {P P' : Nat → Prop} {W' : World} {ov : Value} (h : GIn E t K P W ov l) (g : ∀ b,P b → b < W.heap.size → W'.heap[b]? = W.heap[b]?) (hP : ∀ b,b < W.heap.size → P b → P' b) : GIn E t K P' W' ov l:=by
 obtain ⟨xs,h1,h2⟩:=h
 exact ⟨xs,(h1.imp (P':=fun b=>P b ∧ P' b) (fun b hb hp=>⟨hp,hP b hb hp⟩) |>.keep (fun b hb h=>g b hb.1 h)).imp (fun b _ hb=>hb.2),
  ((h2.imp hE (P':=fun b=>P b ∧ P' b ∧ ov.ownBlock ≠ some b) (fun b hb hp=>⟨hp.1,hP b hb hp.1,hp.2⟩)).keep hE (fun b hb h=>g b hb.1 h)).imp hE (fun b _ hb=>hb.2)⟩
theorem GIn.own (hE : EL E K) {P : Nat → Prop} {ov : Value} (h : GIn E t K P W ov l) : GOwn E t K W P ov l:=by
 obtain ⟨xs,h1,h2⟩:=h
 exact ⟨xs,h1,h2.imp hE fun b _ hb=>hb.1⟩
theorem GIn.slice {P : Nat → Prop} {ov : Value} (h : GIn E t K P W ov l) : ∃ p c,ov = .slice p l.length c:=by obtain ⟨xs,h1,_⟩:=h;exact Kbb h1
theorem GIn.lt {P : Nat → Prop} {ov : Value} (h : GIn E t K P W ov l) : ∀ g,ov.ownBlock = some g → g < W.heap.size ∧ P g:=by
 obtain ⟨xs,h1,_⟩:=h
 exact fun g hg=>⟨(h1.1.lt g hg).2,h1.2 g hg⟩
theorem GIn.step (hE : EL E K) (hG : GT Pg t T K) {P P' : Nat → Prop} {ov : Value} {v : α} {x : Array Value} (h : GIn E t K P W ov m) (hb : ∀ b,P b → b < W.heap.size → W1.heap[b]? = W.heap[b]?) (hsz : W.heap.size ≤ W1.heap.size) (hP : ∀ b,b < W.heap.size → P b → P' b) (hnew : ∀ b,W1.heap.size ≤ b → P' b)
 (hx : E W1 (fun b=>W.heap.size ≤ b ∧ P' b) v x) (hm : m.length ≤ 1100000) (ty : TypeId) :
 ∃ v' W2,(Builtin.append_ #[T,T] ty #[ov,.slice (some ⟨W1.heap.size,0,none⟩) 1 1]).run Pg (W1.alloc (.cells x t)) = .ok v' W2 ∧ GIn E t K P' W2 v' (m ++ [v]) ∧ Touch (fun b=>ov.ownBlock = some b) (W1.alloc (.cells x t)) W2:=by
 have ha : Below W1.heap.size W1 (W1.alloc (.cells x t)):=Kad _
 have hlt : ∀ g,ov.ownBlock = some g → g < W.heap.size:=fun g hg=>(h.lt g hg).1
 obtain ⟨xs,h1,h2⟩:=h.kept (P':=P') hE (W':=W1.alloc (.cells x t)) (fun b hp hlt=>(ha.block b (by omega)).trans (hb b hp hlt)) hP
 have hx' : E (W1.alloc (.cells x t)) (fun b=>W.heap.size ≤ b ∧ P' b) v x:=hE.keep (fun b _ hb=>ha.block b hb) hx
 have hs1 : (W1.alloc (.cells x t)).heap.size = W1.heap.size + 1:=by simp
 obtain ⟨v',W2,a1,a2,a3,a4,a5⟩:=hG.app h1.1 (hE.size hx) (hE.ones hx) (heap_alloc_new W1 _) hm ty
 refine ⟨v',W2,a1,⟨xs ++ [x],⟨?_,fun g hg=>?_⟩,?_⟩,a3⟩
 ·rw [List.flatMap_append,List.length_append]
  simpa using a2
 ·rcases a4 with e | e
  ·exact h1.2 g (e.symm.trans hg)
  ·rw [e] at hg
   cases hg
   exact hnew _ (by omega)
 ·have hs : GOwns E (W1.alloc (.cells x t)) (fun b=>P' b ∧ ov.ownBlock ≠ some b ∧ b < (W1.alloc (.cells x t)).heap.size) (m ++ [v]) (xs ++ [x]) :=
   (h2.imp hE fun b hb hp=>⟨hp.1,hp.2,hb⟩).snoc (hE.imp (fun b hb hp=>⟨hp.2,fun e=>by have:=hlt b e;omega,hb⟩) hx')
  refine (hs.keep hE (w':=W2) fun b hp hb=>a3.block b hb hp.2.1).imp hE fun b _ hp=>⟨hp.1,?_⟩
  rcases a4 with e | e
  ·rw [e];exact hp.2.1
  ·rw [e];intro e2;cases e2;have:=hp.2.2;omega
def GRd (E : World → α → Array Value → Prop) (K : Nat) (w : World) (p : Option Addr) (c : Nat) (l : List α) : Prop :=
 (l.length ≤ c ∧ (l.length ≤ 140737488355328 ∧ c ≤ 9223372036854775807) ∧ (p = none → c = 0)) ∧ ∀ ad,p = some ad → (l ≠ [] → ad.spot = none) ∧ ∀ (j : Nat) (v : α),l[j]? = some v → ∃ cs : Array Value,cs.size = K ∧ (∀ (i : Nat) (u : Value),cs[i]? = some u → w.cell? ⟨ad.block,ad.off + j * K + i,none⟩ = some u) ∧ E w v cs
variable {F : World → α → Array Value → Prop}
theorem GRd.get {p : Option Addr} {c : Nat} (h : GRd F K w p c l) {i : Nat} (hi : i < l.length) : ∃ b o cs,p = some ⟨b,o,none⟩ ∧ cs.size = K ∧ (∀ (k : Nat) (u : Value),cs[k]? = some u → w.cell? ⟨b,o + i * K + k,none⟩ = some u) ∧ F w l[i] cs:=by
 obtain ⟨⟨h1,h2,h3⟩,h4⟩:=h
 cases p with
 | none=>have:=h3 rfl;omega
 | some ad =>
   obtain ⟨hs,hc⟩:=h4 ad rfl
   have hs:=hs (fun e=>by rw [e] at hi;simp at hi)
   obtain ⟨b,o,sp⟩:=ad
   simp only at hs;subst hs
   obtain ⟨cs,h5,h6,h7⟩:=hc i _ (List.getElem?_eq_getElem hi)
   exact ⟨b,o,cs,rfl,h5,h6,h7⟩
theorem GRd.below (hF : ∀ {v : α} {cs : Array Value},F w v cs → F w' v cs) {p : Option Addr} {c : Nat} (h : GRd F K w p c l) (g : Below w.heap.size w w') : GRd F K w' p c l:=by
 obtain ⟨h1,h2⟩:=h
 refine ⟨h1,fun ad had=>⟨(h2 ad had).1,fun j v hv=>?_⟩⟩
 obtain ⟨cs,h3,h4,h5⟩:=(h2 ad had).2 j v hv
 exact ⟨cs,h3,fun i u hu=>Kae g (ltOf (h4 i u hu)) (h4 i u hu),hF h5⟩
theorem flat_K {xs : List (Array Value)} (h6 : ∀ x ∈ xs,x.size = K) : ∀ (j : Nat) (x : Array Value),xs[j]? = some x → ∀ i,i < K → (xs.flatMap Array.toList)[j * K + i]? = x[i]?:=by
 induction xs with
 | nil=>intro j x h;simp at h
 | cons a r ih =>
   intro j x h i hi
   have ha:=h6 a (by simp)
   rw [List.flatMap_cons]
   cases j with
   | zero =>
     simp only [List.getElem?_cons_zero,Option.some.injEq] at h
     subst h
     rw [Nat.zero_mul,Nat.zero_add,List.getElem?_append_left (by simp [ha,hi])]
     simp
   | succ j =>
     have e0 : (j + 1) * K = j * K + K:=by rw [Nat.succ_mul]
     have hj : a.toList.length ≤ (j + 1) * K + i:=by simp [ha];omega
     rw [List.getElem?_append_right hj]
     have e : (j + 1) * K + i - a.toList.length = j * K + i:=by simp [ha];omega
     rw [e]
     exact ih (fun x hx=>h6 x (by simp [hx])) j x (by simpa using h) i hi
theorem GOwn.rd (hE : EL E K) {vl : Value} (h : GOwn E t K w P vl l) (hn : l.length ≤ 140737488355328) (hr : ∀ v ∈ l,∀ x,E w P v x → F w v x) : ∃ p c,vl = .slice p l.length c ∧ GRd F K w p c l:=by
 obtain ⟨xs,h1,h2⟩:=h
 have hc:=fun g=>h1.1.cells (g:=g)
 rcases h1.1.2 with ⟨rfl,h0⟩ | ⟨g,cap,cur,rfl,_,hg,hnc,hcm,_⟩
 ·have : l = []:=List.eq_nil_of_length_eq_zero h0
  subst this
  exact ⟨none,0,rfl,⟨Nat.le_refl _,by simp,fun _=>rfl⟩,fun ad h=>by cases h⟩
 ·refine ⟨some ⟨g,0,none⟩,cap,rfl,⟨hnc,⟨hn,by unfold maxLen at hcm;omega⟩,fun h=>(by cases h)⟩,fun ad had=>?_⟩
  cases had
  refine ⟨fun _=>rfl,fun j v hv=>?_⟩
  obtain ⟨x,hx,hown⟩:=h2.2 j v hv
  refine ⟨x,hE.size hown,fun i u hu=>?_,hr v (List.mem_of_getElem? hv) x hown⟩
  have hi : i < K:=by
   have:=(Array.getElem?_eq_some_iff.1 hu).1
   rw [hE.size hown] at this;exact this
  have:=hc g rfl (j * K + i) u (by rw [flat_K (fun y hy=>by obtain ⟨z,_,hz⟩:=h2.mem hy;exact hE.size hz) j x hx i hi];exact hu)
  rw [Kap] at this
  rw [Nat.zero_add] at this ⊢
  exact this
end
abbrev Dec (α : Type):=List UInt8 → Option (α × List UInt8)
structure RT {α : Type} (d : Dec α) (e : α → List UInt8) (P : α → Prop) : Prop where
 full : ∀ x r,P x → d (e x ++ r) = some (x,r)
 sound : ∀ b x r,d b = some (x,r) → b = e x ++ r ∧ P x
section
variable {α β : Type} {d : Dec α} {e : α → List UInt8} {P : α → Prop} {f : Dec β} {g : β → List UInt8} {Q : β → Prop}
theorem RT.one (h : RT d e P) {x y : α} {r s : List UInt8} (hx : P x) (hy : P y) (he : e x ++ r = e y ++ s) : x = y ∧ r = s:=by
 have h1:=h.full x r hx
 rw [he,h.full y s hy] at h1
 cases h1
 exact ⟨rfl,rfl⟩
def Dec.map (u : α → β) (d : Dec α) : Dec β:=fun b=>(d b).map fun p=>(u p.1,p.2)
theorem RT.map (h : RT d e P) (u : α → β) (v : β → α) (h1 : ∀ x,P x → Q (u x) ∧ v (u x) = x) (h2 : ∀ y,Q y → P (v y) ∧ u (v y) = y) : RT (d.map u) (fun y=>e (v y)) Q:=by
 refine ⟨fun y r hy=>?_,fun b y r hb=>?_⟩
 ·unfold Dec.map
  rw [h.full _ r (h2 y hy).1,Option.map_some,(h2 y hy).2]
 ·unfold Dec.map at hb
  obtain ⟨⟨x,s⟩,hd,he⟩:=Option.map_eq_some_iff.1 hb
  cases he
  obtain ⟨k1,k2⟩:=h.sound _ _ _ hd
  exact ⟨by rw [(h1 x k2).2];exact k1,(h1 x k2).1⟩
def Dec.rep (d : Dec α) : Nat → List UInt8 → Option (List α × List UInt8)
 | 0,b=>some ([],b)
 | n + 1,b=>match d b with
   | none=>none
   | some (x,r)=>match d.rep n r with
     | none=>none
     | some (l,s)=>some (x :: l,s)
end
def u64T (n : Nat) : Prop:=n < 18446744073709551616
def i64T (n : Int) : Prop:=-9223372036854775808 ≤ n ∧ n ≤ 9223372036854775807
section
variable {α : Type} {d : Dec α} {e : α → List UInt8} {P : α → Prop}
end
structure PropD where
 key : List UInt8
 val : V
structure NodeD where
 id : Int
 labels : List (List UInt8)
 props : List PropD
structure RelD where
 id : Int
 src : Int
 dst : Int
 type : List UInt8
 props : List PropD
structure GraphD where
 nodes : List NodeD
 rels : List RelD
 nextNode : Int
 nextRel : Int
structure ChangeD where
 kind : Int
 id : Int
 other : Int
 node : NodeD
 rel : RelD
abbrev Rs:=List UInt8 × Bool
def dN : Nat → Nat → List UInt8 → Option (Nat × List UInt8 × Bool)
 | _,_,[]=>none
 | i,a,c :: r=>if 10 ≤ i then none else
   if c.toNat < 128 then some ((a + c.toNat % 128 * 2 ^ (7 * i)) % 18446744073709551616,r,(decide (i = 0) || decide (c.toNat ≠ 0)) && (decide (i < 9) || decide (c.toNat < 2)))
   else dN (i + 1) ((a + c.toNat % 128 * 2 ^ (7 * i)) % 18446744073709551616) r
def docN (s : Rs) : Nat × Rs:=match dN 0 0 s.1 with
 | none=>(0,s.1,true)
 | some (n,r,ok)=>(n,r,s.2 || !ok)
def Kcn (s : Rs) : Nat × Rs:=if (docN s).2.1.length < (docN s).1 then (0,(docN s).2.1,true) else docN s
section
variable {α β : Type}
def docMap (u : α → β) (f : Rs → α × Rs) (s : Rs) : β × Rs:=(u (f s).1,(f s).2)
def Ka9 (f : Rs → α × Rs) : Nat → Rs → List α × Rs
 | 0,s=>([],s)
 | n + 1,s=>if s.2 then ([],s) else ((f s).1 :: (Ka9 f n (f s).2).1,(Ka9 f n (f s).2).2)
def docRows (f : Rs → α × Rs) (s : Rs) : List α × Rs:=Ka9 f (Kcn s).1 (Kcn s).2
def DF (f : Rs → α × Rs) (e : α → List UInt8) (P : α → Prop) : Prop:=∀ x r,P x → f (e x ++ r,false) = (x,r,false)
variable {f : Rs → α × Rs} {g : Rs → β × Rs} {e : α → List UInt8} {k : β → List UInt8} {P : α → Prop} {Q : β → Prop}
theorem DF.map (h : DF f e P) (u : α → β) (v : β → α) (h2 : ∀ y,Q y → P (v y) ∧ u (v y) = y) : DF (docMap u f) (fun y=>e (v y)) Q:=fun y r hy=>by
 unfold docMap
 rw [h _ r (h2 y hy).1,(h2 y hy).2]
theorem DF.loop (h : DF f e P) : ∀ (l : List α) (r : List UInt8),(∀ x ∈ l,P x) → Ka9 f l.length (l.flatMap e ++ r,false) = (l,r,false)
 | [],r,_=>rfl
 | x :: l,r,hp=>by
   rw [List.length_cons,Ka9,if_neg (by simp),List.flatMap_cons,List.append_assoc,h x _ (hp x (by simp))]
   simp only
   rw [DF.loop h l r fun y hy=>hp y (by simp [hy])]
end
structure DS {α : Type} (f : Rs → α × Rs) (sz : α → Nat) (R : α → Prop) : Prop where
 less : ∀ s,(f s).2.1.length ≤ s.1.length
 bad : ∀ s,s.2 = true → (f s).2.2 = true
 size : ∀ s,(f s).2.2 = false → sz (f s).1 + (f s).2.1.length ≤ s.1.length
 rng : ∀ s,R (f s).1
theorem dN_len : ∀ (b : List UInt8) (i a n : Nat) (r : List UInt8) (ok : Bool),dN i a b = some (n,r,ok) → r.length + 1 ≤ b.length ∧ n < 18446744073709551616
 | [],i,a,n,r,ok,h=>by rw [dN] at h;cases h
 | c :: b,i,a,n,r,ok,h=>by
   rw [dN] at h
   split at h
   ·cases h
   ·split at h
    ·cases h
     exact ⟨by simp,Nat.mod_lt _ (by decide)⟩
    ·have:=dN_len b _ _ _ _ _ h
     rw [List.length_cons];omega
theorem ds_num : DS docN (fun _=>1) u64T:=by
 refine ⟨fun s=>?_,fun s h=>?_,fun s h=>?_,fun s=>?_⟩
 all_goals
  unfold docN at *
  cases e : dN 0 0 s.1 with
  | none=>simp_all [u64T]
  | some x =>
    obtain ⟨n,r,ok⟩:=x
    have:=dN_len _ _ _ _ _ _ e
    simp only [e] at *
    try simp only [h,Bool.true_or]
    try unfold u64T
    first | omega | rfl | skip
theorem ds_count : DS Kcn (fun _=>1) u64T:=by
 refine ⟨fun s=>?_,fun s h=>?_,fun s h=>?_,fun s=>?_⟩
 ·unfold Kcn;split
  ·exact ds_num.less s
  ·exact ds_num.less s
 ·unfold Kcn;split
  ·rfl
  ·exact ds_num.bad s h
 ·unfold Kcn at *;split at h
  ·cases h
  ·rename_i hn;rw [if_neg hn];exact ds_num.size s h
 ·unfold Kcn;split
  ·exact (by unfold u64T;omega : u64T 0)
  ·exact ds_num.rng s
section
variable {α β : Type} {f : Rs → α × Rs} {g : Rs → β × Rs} {sz : α → Nat} {tz : β → Nat} {R : α → Prop} {T : β → Prop}
theorem DS.map (h : DS f sz R) (u : α → β) (hs : ∀ x,tz (u x) ≤ sz x) (hr : ∀ x,R x → T (u x)) : DS (docMap u f) tz T :=
 ⟨fun s=>h.less s,fun s hb=>h.bad s hb,fun s hb=>by have:=h.size s hb;have:=hs (f s).1;unfold docMap;simp only;omega,fun s=>hr _ (h.rng s)⟩
theorem DS.loop (h : DS f sz R) : ∀ (n : Nat) (s : Rs),(Ka9 f n s).2.1.length ≤ s.1.length ∧ (s.2 = true → (Ka9 f n s).2.2 = true) ∧ ((Ka9 f n s).2.2 = false → ((Ka9 f n s).1.map sz).sum + (Ka9 f n s).2.1.length ≤ s.1.length) ∧ (∀ x ∈ (Ka9 f n s).1,R x) ∧ (Ka9 f n s).1.length ≤ n
 | 0,s=>⟨Nat.le_refl _,fun h=>h,fun _=>by simp [Ka9],fun x hx=>by simp [Ka9] at hx,by simp [Ka9]⟩
 | n + 1,s=>by
   cases e : s.2
   ·have hs : Ka9 f (n + 1) s = ((f s).1 :: (Ka9 f n (f s).2).1,(Ka9 f n (f s).2).2):=by rw [Ka9,if_neg (by rw [e];decide)]
    obtain ⟨k1,k2,k3,k4,k5⟩:=DS.loop h n (f s).2
    have h0:=h.less s
    rw [hs]
    refine ⟨?_,fun h=>Bool.noConfusion h,fun hb=>?_,fun x hx=>?_,?_⟩
    ·simp only;omega
    ·have h1:=k3 hb
     have hf : (f s).2.2 = false:=by
      cases e2 : (f s).2.2
      ·rfl
      ·have:=k2 e2
       simp only at hb
       rw [this] at hb;cases hb
     have h2:=h.size s hf
     simp only [List.map_cons,List.sum_cons]
     omega
    ·rcases List.mem_cons.1 hx with rfl | hx
     ·exact h.rng s
     ·exact k4 x hx
    ·simp only [List.length_cons];omega
   ·have hs : Ka9 f (n + 1) s = ([],s):=by rw [Ka9,if_pos e]
    rw [hs]
    exact ⟨Nat.le_refl _,fun _=>e,fun hb=>(by rw [show s.2 = false from hb] at e;cases e),fun x hx=>(by cases hx),Nat.zero_le _⟩
theorem DS.rows (h : DS f sz R) : DS (docRows f) (fun l=>1 + (l.map sz).sum) (fun l=>∀ x ∈ l,R x):=by
 refine ⟨fun s=>Nat.le_trans (h.loop _ _).1 (ds_count.less s),fun s hb=>(h.loop _ _).2.1 (ds_count.bad s hb),fun s hb=>?_,fun s=>(h.loop _ _).2.2.2.1⟩
 have h1:=(h.loop _ _).2.2.1 hb
 have h2:=ds_count.size s (by
  cases e2 : (Kcn s).2.2
  ·rfl
  ·have:=(h.loop (Kcn s).1 _).2.1 e2
   unfold docRows at hb
   rw [this] at hb;cases hb)
 unfold docRows at *
 omega
end
def totP (p : PropD) : Nat:=1 + p.key.length + totV p.val
def totPs (l : List PropD) : Nat:=(l.map totP).sum
def totLs (l : List (List UInt8)) : Nat:=(l.map fun s=>1 + s.length).sum
def totN (n : NodeD) : Nat:=1 + totLs n.labels + totPs n.props
def totR (r : RelD) : Nat:=1 + r.type.length + totPs r.props
def totG (g : GraphD) : Nat:=(g.nodes.map totN).sum + (g.rels.map totR).sum
def rngP (p : PropD) : Prop:=rngV p.val
theorem ones_append {a b : Array Value} (h : ∀ u ∈ a.toList,u.oneCell' = true) (g : ∀ u ∈ b.toList,u.oneCell' = true) : ∀ u ∈ (a ++ b).toList,u.oneCell' = true:=fun u hu=>by
 rw [Array.toList_append,List.mem_append] at hu
 rcases hu with hu | hu
 ·exact h u hu
 ·exact g u hu
def POwn (w : World) (P : Nat → Prop) (p : PropD) (x : Array Value) : Prop:=∃ y,x = #[.string (strB p.key)] ++ y ∧ VOwn w P p.val y
theorem Kax : EL POwn 7:=by
 refine ⟨?_,?_,?_,?_⟩
 ·rintro w w' P p a hk ⟨y,rfl,h⟩;exact ⟨y,rfl,h.keep hk⟩
 ·rintro w P P' p a hp ⟨y,rfl,h⟩;exact ⟨y,rfl,h.imp hp⟩
 ·rintro w P p a ⟨y,rfl,h⟩;rw [Array.size_append,h.size6];rfl
 ·rintro w P p a ⟨y,rfl,h⟩;exact ones_append (by simp [Value.oneCell']) h.ones
def NOwn (w : World) (P : Nat → Prop) (n : NodeD) (x : Array Value) : Prop:=∃ vl vp,x = #[.int .i64 n.id,vl,vp] ∧ OwnsP w P 9 1 vl n.labels.length (n.labels.map strV) ∧ GOwn POwn 47 7 w P vp n.props
theorem Kba : EL NOwn 3:=by
 refine ⟨?_,?_,?_,?_⟩
 ·rintro w w' P p a hk ⟨vl,vp,rfl,h1,h2⟩;exact ⟨vl,vp,rfl,h1.keep hk,h2.keep Kax hk⟩
 ·rintro w P P' p a hp ⟨vl,vp,rfl,h1,h2⟩;exact ⟨vl,vp,rfl,h1.imp hp,h2.imp Kax hp⟩
 ·rintro w P p a ⟨vl,vp,rfl,h1,h2⟩;rfl
 ·rintro w P p a ⟨vl,vp,rfl,h1,xs,h2,_⟩ u hu
  have e1:=own_one h1
  have e2:=own_one h2
  simp only [List.mem_cons,List.not_mem_nil,or_false] at hu
  rcases hu with rfl | rfl | rfl <;> first | rfl | assumption
def ROwn (w : World) (P : Nat → Prop) (r : RelD) (x : Array Value) : Prop:=∃ vp,x = #[.int .i64 r.id,.int .i64 r.src,.int .i64 r.dst,.string (strB r.type),vp] ∧ GOwn POwn 47 7 w P vp r.props
theorem Kbt : EL ROwn 5:=by
 refine ⟨?_,?_,?_,?_⟩
 ·rintro w w' P p a hk ⟨vp,rfl,h2⟩;exact ⟨vp,rfl,h2.keep Kax hk⟩
 ·rintro w P P' p a hp ⟨vp,rfl,h2⟩;exact ⟨vp,rfl,h2.imp Kax hp⟩
 ·rintro w P p a ⟨vp,rfl,h2⟩;rfl
 ·rintro w P p a ⟨vp,rfl,xs,h2,_⟩ u hu
  have e2:=own_one h2
  simp only [List.mem_cons,List.not_mem_nil,or_false] at hu
  rcases hu with rfl | rfl | rfl | rfl | rfl <;> first | rfl | assumption
def GrOwn (w : World) (P : Nat → Prop) (g : GraphD) (x : Array Value) : Prop:=∃ vn vr,x = #[vn,vr,.int .i64 g.nextNode,.int .i64 g.nextRel] ∧ GOwn NOwn 45 3 w P vn g.nodes ∧ GOwn ROwn 49 5 w P vr g.rels
def PRd (w : World) (p : PropD) (x : Array Value) : Prop:=∃ y,x = #[.string (strB p.key)] ++ y ∧ p.key.length ≤ 140737488355328 ∧ VRd w p.val y
def NRd (w : World) (n : NodeD) (x : Array Value) : Prop:=∃ pl cl pp cp,x = #[.int .i64 n.id,.slice pl n.labels.length cl,.slice pp n.props.length cp] ∧ RdS w pl cl n.labels ∧ GRd PRd 7 w pp cp n.props
def RRd (w : World) (r : RelD) (x : Array Value) : Prop:=∃ pp cp,x = #[.int .i64 r.id,.int .i64 r.src,.int .i64 r.dst,.string (strB r.type),.slice pp r.props.length cp] ∧ r.type.length ≤ 140737488355328 ∧ GRd PRd 7 w pp cp r.props
def CRd (w : World) (c : ChangeD) (x : Array Value) : Prop:=∃ a b,x = #[.int .i64 c.kind,.int .i64 c.id,.int .i64 c.other] ++ a ++ b ∧ NRd w c.node a ∧ RRd w c.rel b
def GrRd (w : World) (g : GraphD) (x : Array Value) : Prop:=∃ pn cn pr cr,x = #[.slice pn g.nodes.length cn,.slice pr g.rels.length cr,.int .i64 g.nextNode,.int .i64 g.nextRel] ∧ GRd NRd 3 w pn cn g.nodes ∧ GRd RRd 5 w pr cr g.rels
section
variable {w w' : World}
theorem PRd.below {p : PropD} {x : Array Value} (h : PRd w p x) (g : Below w.heap.size w w') : PRd w' p x:=by
 obtain ⟨y,e,h1,h2⟩:=h;exact ⟨y,e,h1,h2.below g⟩
theorem NRd.below {p : NodeD} {x : Array Value} (h : NRd w p x) (g : Below w.heap.size w w') : NRd w' p x:=by
 obtain ⟨pl,cl,pp,cp,e,h1,h2⟩:=h;exact ⟨pl,cl,pp,cp,e,h1.below g,h2.below (fun h=>h.below g) g⟩
theorem RRd.below {p : RelD} {x : Array Value} (h : RRd w p x) (g : Below w.heap.size w w') : RRd w' p x:=by
 obtain ⟨pp,cp,e,h1,h2⟩:=h;exact ⟨pp,cp,e,h1,h2.below (fun h=>h.below g) g⟩
theorem CRd.below {p : ChangeD} {x : Array Value} (h : CRd w p x) (g : Below w.heap.size w w') : CRd w' p x:=by
 obtain ⟨a,b,e,h1,h2⟩:=h;exact ⟨a,b,e,h1.below g,h2.below g⟩
theorem GrRd.below {p : GraphD} {x : Array Value} (h : GrRd w p x) (g : Below w.heap.size w w') : GrRd w' p x:=by
 obtain ⟨pn,cn,pr,cr,e,h1,h2⟩:=h;exact ⟨pn,cn,pr,cr,e,h1.below (fun h=>h.below g) g,h2.below (fun h=>h.below g) g⟩
theorem POwn.rd {P : Nat → Prop} {p : PropD} {x : Array Value} (h : POwn w P p x) (ht : totP p ≤ 900000) : PRd w p x:=by
 obtain ⟨y,e,h1⟩:=h
 unfold totP at ht
 exact ⟨y,e,by omega,h1.rd (by omega)⟩
theorem props_rd {P : Nat → Prop} {vp : Value} {l : List PropD} (h : GOwn POwn 47 7 w P vp l) (ht : totPs l ≤ 900000) : ∃ p c,vp = .slice p l.length c ∧ GRd PRd 7 w p c l:=by
 have h1 : l.length ≤ totPs l:=by
  clear h ht
  induction l with
  | nil=>simp
  | cons a l ih=>rw [totPs,List.map_cons,List.sum_cons,List.length_cons];have : 1 ≤ totP a:=by unfold totP;omega
                 unfold totPs at ih;omega
 refine h.rd Kax (by omega) fun p hp x hx=>hx.rd ?_
 have : totP p ≤ totPs l:=by
  clear h ht h1 hx
  induction l with
  | nil=>cases hp
  | cons a l ih =>
    rw [totPs,List.map_cons,List.sum_cons]
    unfold totPs at ih
    rcases List.mem_cons.1 hp with rfl | hp
    ·omega
    ·have:=ih hp;omega
 omega
theorem NOwn.rd {P : Nat → Prop} {n : NodeD} {x : Array Value} (h : NOwn w P n x) (ht : totN n ≤ 900000) : NRd w n x:=by
 obtain ⟨vl,vp,e,h1,h2⟩:=h
 unfold totN at ht
 have hl : n.labels.length ≤ totLs n.labels ∧ ∀ s ∈ n.labels,s.length ≤ totLs n.labels:=by
  generalize n.labels = l
  induction l with
  | nil=>simp
  | cons a l ih =>
    unfold totLs at ih ⊢
    rw [List.map_cons,List.sum_cons,List.length_cons]
    refine ⟨by omega,fun s hs=>?_⟩
    rcases List.mem_cons.1 hs with rfl | hs
    ·omega
    ·have:=ih.2 s hs;omega
 obtain ⟨pl,cl,rfl,h3⟩:=Kcu h1 (by omega) (fun s hs=>by have:=hl.2 s hs;omega)
 obtain ⟨pp,cp,rfl,h4⟩:=props_rd h2 (by omega)
 exact ⟨pl,cl,pp,cp,e,h3,h4⟩
theorem ROwn.rd {P : Nat → Prop} {r : RelD} {x : Array Value} (h : ROwn w P r x) (ht : totR r ≤ 900000) : RRd w r x:=by
 obtain ⟨vp,e,h2⟩:=h
 unfold totR at ht
 obtain ⟨pp,cp,rfl,h4⟩:=props_rd h2 (by omega)
 exact ⟨pp,cp,e,by omega,h4⟩
end
end Go.Proofs.YtihfnegakcghiaaGreatDoor
namespace Go.Proofs.YtihfnegakcghiaaGreatDoor
open Go.ChangeShapes Go.WideShapes Go.ChangeAt Go.RowKit Go.Joins
section
variable {H : Type} {enc : TypeId × Value → H} {w : World} {base : Nat} {held : Bool}
theorem cellsP : Tryz.prog.cellsOf 47 = 7:=by kernel_rfl
theorem cellsPs : Tryz.prog.cellsOf 27 = 1:=by kernel_rfl
instance : Inhabited PropD:=⟨⟨[],.mk 0 false 0 [] [] []⟩⟩
instance : Inhabited NodeD:=⟨⟨0,[],[]⟩⟩
instance : Inhabited RelD:=⟨⟨0,0,0,[],[]⟩⟩
instance : Inhabited ChangeD:=⟨⟨0,0,0,⟨0,[],[]⟩,⟨0,0,0,[],[]⟩⟩⟩
theorem bytesP : 1 ≤ Tryz.prog.bytesOf 47:=of_decide_eq_true (by kernel_rfl)
end
end Go.Proofs.YtihfnegakcghiaaGreatDoor
namespace Go.Proofs.YtihfnegakcghiaaGreatDoor
open Go.RowKit
def PsOk (l : List PropD) : Prop:=l.length ≤ 1100000 ∧ ∀ p ∈ l,p.key.length ≤ 140737488355328 ∧ totV p.val ≤ 1100000
def NOk (n : NodeD) : Prop:=n.labels.length ≤ 1100000 ∧ (∀ s ∈ n.labels,s.length ≤ 140737488355328) ∧ PsOk n.props
def ROk (r : RelD) : Prop:=r.type.length ≤ 140737488355328 ∧ PsOk r.props
def GOk (g : GraphD) : Prop:=g.nodes.length ≤ 1100000 ∧ g.rels.length ≤ 1100000 ∧ (∀ n ∈ g.nodes,NOk n) ∧ ∀ r ∈ g.rels,ROk r
theorem sumMem9 {α : Type} (f : α → Nat) : ∀ {l : List α} {x : α},x ∈ l → f x ≤ (l.map f).sum
 | a :: l,x,h=>by
   rw [List.map_cons,List.sum_cons]
   rcases List.mem_cons.1 h with rfl | h
   ·omega
   ·have:=sumMem9 f h;omega
theorem sumLen9 {α : Type} (f : α → Nat) : ∀ {l : List α},(∀ x ∈ l,1 ≤ f x) → l.length ≤ (l.map f).sum
 | [],_=>by simp
 | a :: l,h=>by
   rw [List.map_cons,List.sum_cons,List.length_cons]
   have:=h a (by simp)
   have:=sumLen9 f fun x hx=>h x (List.mem_cons_of_mem a hx)
   omega
theorem PsOk.of {l : List PropD} (h : totPs l ≤ 1100000) : PsOk l:=by
 refine ⟨Nat.le_trans (sumLen9 totP fun p _=>by unfold totP;omega) h,fun p hp=>?_⟩
 have:=sumMem9 totP hp
 unfold totPs at h
 unfold totP at this h
 omega
theorem NOk.of {n : NodeD} (h : totN n ≤ 1100000) : NOk n:=by
 unfold totN at h
 have h1 : n.labels.length ≤ totLs n.labels:=sumLen9 _ fun s _=>by omega
 refine ⟨by omega,fun s hs=>?_,.of (by omega)⟩
 have h2 : 1 + s.length ≤ totLs n.labels:=sumMem9 (fun s : List UInt8=>1 + s.length) hs
 omega
theorem ROk.of {r : RelD} (h : totR r ≤ 1100000) : ROk r:=by
 unfold totR at h
 exact ⟨by omega,.of (by omega)⟩
theorem GOk.of {g : GraphD} (h : totG g ≤ 1100000) : GOk g:=by
 unfold totG at h
 have h1 : g.nodes.length ≤ (g.nodes.map totN).sum:=sumLen9 totN fun n _=>by unfold totN;omega
 have h2 : g.rels.length ≤ (g.rels.map totR).sum:=sumLen9 totR fun n _=>by unfold totR;omega
 exact ⟨by omega,by omega,fun n hn=>.of (by have:=sumMem9 totN hn;omega),fun r hr=>.of (by have:=sumMem9 totR hr;omega)⟩
section
variable {w : World} {P : Nat → Prop} {x : Array Value} {vp : Value}
theorem POwn.rdO {p : PropD} (h : POwn w P p x) (h1 : p.key.length ≤ 140737488355328) (h2 : totV p.val ≤ 1100000) : PRd w p x:=by
 obtain ⟨y,e,hv⟩:=h
 exact ⟨y,e,h1,hv.rd h2⟩
theorem props_rdO {l : List PropD} (h : GOwn POwn 47 7 w P vp l) (ho : PsOk l) : ∃ p c,vp = .slice p l.length c ∧ GRd PRd 7 w p c l :=
 h.rd Kax (by have:=ho.1;omega) fun p hp x hx=>hx.rdO (ho.2 p hp).1 (ho.2 p hp).2
theorem NOwn.rdO {n : NodeD} (h : NOwn w P n x) (ho : NOk n) : NRd w n x:=by
 obtain ⟨vl,vp,e,h1,h2⟩:=h
 obtain ⟨pl,cl,rfl,h3⟩:=Kcu h1 (by have:=ho.1;omega) ho.2.1
 obtain ⟨pp,cp,rfl,h4⟩:=props_rdO h2 ho.2.2
 exact ⟨pl,cl,pp,cp,e,h3,h4⟩
theorem ROwn.rdO {r : RelD} (h : ROwn w P r x) (ho : ROk r) : RRd w r x:=by
 obtain ⟨vp,e,h2⟩:=h
 obtain ⟨pp,cp,rfl,h4⟩:=props_rdO h2 ho.2
 exact ⟨pp,cp,e,ho.1,h4⟩
theorem GrOwn.rdO {g : GraphD} (h : GrOwn w P g x) (ho : GOk g) : GrRd w g x:=by
 obtain ⟨vn,vr,rfl,h1,h2⟩:=h
 obtain ⟨pn,cn,rfl,e1⟩:=h1.rd Kba (F:=NRd) (by have:=ho.1;omega) fun v hv x hx=>hx.rdO (ho.2.2.1 v hv)
 obtain ⟨pr,cr,rfl,e2⟩:=h2.rd Kbt (F:=RRd) (by have:=ho.2.1;omega) fun v hv x hx=>hx.rdO (ho.2.2.2 v hv)
 exact ⟨pn,cn,pr,cr,rfl,e1,e2⟩
theorem GRd.mem_of {α : Type} {F : World → α → Array Value → Prop} {K : Nat} {p : Option Addr} {c : Nat} {l : List α} (h : GRd F K w p c l) {v : α} (hv : v ∈ l) : ∃ cs,F w v cs:=by
 obtain ⟨i,hi,rfl⟩:=List.getElem_of_mem hv
 obtain ⟨b,o,cs,_,_,_,h4⟩:=h.get hi
 exact ⟨cs,h4⟩
theorem PsOk.rd {p : Option Addr} {c : Nat} {l : List PropD} (h : GRd PRd 7 w p c l) (h1 : l.length ≤ 1100000) (h2 : ∀ x ∈ l,totV x.val ≤ 1100000) : PsOk l :=
 ⟨h1,fun x hx=>by obtain ⟨cs,y,_,e,_⟩:=h.mem_of hx;exact ⟨e,h2 x hx⟩⟩
end
end Go.Proofs.YtihfnegakcghiaaGreatDoor
namespace Go.Proofs.YtihfnegakcghiaaGreatDoor
open Go.ChangeShapes Go.WideShapes Go.ChangeAt Go.RowKit Go.Joins
open _root_.Go.Proofs.YtihfnegakcghiaaGreatDoor.Rows (uptoBulk uptoBulkAll)
section
variable {H : Type} {enc : TypeId × Value → H} {w : World} {base : Nat} {held : Bool}
theorem bulk_pos (d : DataW H) : 1 ≤ uptoBulk d:=by
 cases d with
 | lit l=>cases l <;> simp [uptoBulk]
 | nil=>simp [uptoBulk]
 | ptr d=>simp [uptoBulk]
 | slice elems spare=>simp [uptoBulk]
 | agg parts=>simp [uptoBulk]
 | iface t d=>simp [uptoBulk]
 | map entries=>simp [uptoBulk]
 | held h=>simp [uptoBulk]
theorem bulk_mem {d : DataW H} : ∀ {l : List (DataW H)},d ∈ l → uptoBulk d ≤ uptoBulkAll l
 | x :: r,h=>by
   rw [uptoBulkAll]
   rcases List.mem_cons.1 h with rfl | h
   ·omega
   ·have:=bulk_mem h;omega
theorem bulk_len : ∀ (l : List (DataW H)),l.length ≤ uptoBulkAll l
 | []=>by simp
 | x :: r=>by
   have h1:=bulk_pos x
   have h2:=bulk_len r
   rw [uptoBulkAll,List.length_cons];omega
theorem bulk_slice (a b : List (DataW H)) : uptoBulkAll a < uptoBulk (.slice a b):=by rw [uptoBulk];omega
theorem bulk_agg (a : List (DataW H)) : uptoBulkAll a < uptoBulk (.agg a):=by rw [uptoBulk];omega
theorem bulk_str (s : List UInt8) : uptoBulk (DataW.lit (H:=H) (.string s)) = s.length + 1:=by rw [uptoBulk]
theorem bulk_strs : ∀ l : List ByteArray,uptoBulkAll (strs (H:=H) l) = ((l.map fun s=>s.data.toList).map List.length).sum + l.length
 | []=>by simp [strs,uptoBulkAll]
 | a :: l=>by
   have ih:=bulk_strs l
   unfold strs at ih ⊢
   rw [List.map_cons,uptoBulkAll,ih,bulk_str]
   simp only [List.map_cons,List.sum_cons,List.length_cons];omega
theorem bulk_vals : ∀ (ds : List (DataW H)) (l : List V),l.length = ds.length → (∀ i (h1 : i < l.length) (h2 : i < ds.length),totV l[i] ≤ uptoBulk ds[i]) → totVs l ≤ uptoBulkAll ds
 | [],[],_,_=>by simp [totVs,uptoBulkAll]
 | [],_ :: _,h,_=>by simp at h
 | _ :: _,[],h,_=>by simp at h
 | d :: ds,v :: l,h,g=>by
   have h1:=g 0 (by simp) (by simp)
   have h2:=bulk_vals ds l (by simpa using h) fun i a b=>g (i + 1) (by simpa using a) (by simpa using b)
   rw [Kcq,uptoBulkAll]
   simp only [List.getElem_cons_zero] at h1
   omega
theorem keys_ofU {fuel : Nat} {v : Value} {x : DataW H × List MemPlace} (h : DataW.trod enc Tryz.prog w base (fun _=>true) held fuel 26 [v] = some x) (hf : Fits 26 x.1) :
 ∃ p c ks,v = .slice p (List.length ks) c ∧ RdS w p c ks ∧ ks.length + (ks.map List.length).sum < uptoBulk x.1:=by
 rcases open_strings Tryz.underlying26 Tryz.underlying9 cells9 h with ⟨hv,_⟩ | ⟨a,len,cap,ss,hv,_,hl,hm,hlen,rfl,hc,_⟩
 ·cases hv
  exact ⟨none,0,[],rfl,⟨Nat.le_refl _,(by simp),(fun _=>rfl),fun s hs=>by simp at hs,fun ad h=>by cases h⟩,by have:=bulk_pos x.1;simp;omega⟩
 ·cases hv
  obtain ⟨h1,h2⟩:=fits_slice Tryz.underlying26 hf
  rw [bytes9] at h1
  have hle : len ≤ ss.length:=by rw [hlen];simpa using hl
  have hk : ((ss.take len).map fun s=>s.data.toList).length = len:=by simp;omega
  have hget : ∀ (i : Nat) (s : List UInt8),((ss.take len).map fun s=>s.data.toList)[i]? = some s → i < len ∧ i < ss.length ∧ strB s = ss.getD i ByteArray.empty:=by
   intro i s hs
   have hi : i < len:=by
    have:=(List.getElem?_eq_some_iff.1 hs).1
    rw [hk] at this;exact this
   have hi2 : i < ss.length:=by omega
   rw [List.getElem?_map,List.getElem?_take,if_pos hi,List.getElem?_eq_getElem hi2] at hs
   cases hs
   exact ⟨hi,hi2,by simp [strB_back,List.getD,hi2]⟩
  have hbk:=bulk_strs (H:=H) (ss.take len)
  have hlt:=bulk_slice (strs (H:=H) (ss.take len)) (strs (H:=H) (ss.drop len))
  have hle9 : (ss.take len).length = len:=by simpa using hk
  refine ⟨some a,cap,(ss.take len).map fun s=>s.data.toList,by rw [hk],⟨by rw [hk];exact hl,?_,(fun e=>by cases e),fun s hs=>?_,fun ad had=>?_⟩,by rw [hk];show len + _ < uptoBulk (.slice (strs (H:=H) (ss.take len)) (strs (H:=H) (ss.drop len)));omega⟩
  ·rw [hk]
   have : len ≤ 140737488351232:=by
    have : (strs (H:=H) (ss.take len)).length = len:=by simp [strs];omega
    rw [this] at h1;omega
   exact ⟨by omega,hm⟩
  ·obtain ⟨s',hs',rfl⟩:=List.mem_map.1 hs
   have:=Kdg (h2 (.lit (.string s'.data.toList)) (List.mem_map.2 ⟨s',hs',rfl⟩))
   omega
  ·cases had
   have hspot : 0 < len → a.spot = none:=fun h0=>by
    have:=World.cell?_spot (hc 0 (by omega))
    simpa [Addr.add] using this
   refine ⟨fun hne=>hspot ?_,fun i s hs=>?_⟩
   ·rcases Nat.eq_zero_or_pos len with h0 | h0
    ·exact absurd (List.eq_nil_of_length_eq_zero (by rw [hk];exact h0)) hne
    ·exact h0
   ·obtain ⟨h3,h4,h5⟩:=hget i s hs
    have h6:=hc i h4
    have hs0:=hspot (by omega)
    obtain ⟨ab,ao,asp⟩:=a
    simp only at hs0
    subst hs0
    rw [Kap] at h6
    rw [h5]
    exact h6
theorem value_ofU : ∀ (fuel : Nat) (cs : List Value) (x : DataW H × List MemPlace),DataW.trod enc Tryz.prog w base (fun _=>true) held fuel 31 cs = some x → Fits 31 x.1 →
 ∃ v,VRd w v cs.toArray ∧ rngV v ∧ totV v ≤ uptoBulk x.1:=by
 intro fuel
 induction fuel using Nat.strongRecOn with
 | ind fuel ih =>
   intro cs x h hf
   obtain ⟨xs,n,rfl,rfl,hl,hlen,hfl⟩:=DataW.trod_struct Tryz.underlying31 h
   rw [cells26] at hl
   match xs,hlen with
   | [y0,y1,y2,y3,y4,y5],_ =>
     match cs,hl with
     | [c0,c1,c2,c3,c4,c5],_ =>
       have k0:=hfl 0 _ rfl
       have k1:=hfl 1 _ rfl
       have k2:=hfl 2 _ rfl
       have k3:=hfl 3 _ rfl
       have k4:=hfl 4 _ rfl
       have k5:=hfl 5 _ rfl
       simp only [cells22,cells4,cells2,cells9,cells23,cells24,List.drop_zero,List.drop_succ_cons,List.take_succ_cons,List.take_zero,List.getElem?_cons_zero,List.getElem?_cons_succ] at k0 k1 k2 k3 k4 k5
       obtain ⟨w3,w4,w5⟩:=weights_struct hf
       obtain ⟨kd,e0,_,_⟩:=DataW.trod_int Tryz.underlying28 k0
       obtain ⟨b,e1,_⟩:=DataW.trod_bool Tryz.underlying4 k1
       obtain ⟨num,e2,_,hw⟩:=DataW.trod_int Tryz.underlying2 k2
       obtain ⟨s,e3,e3',_⟩:=DataW.trod_string Tryz.underlying9 k3
       obtain ⟨pk,ck,ks,rfl,hks,hkb⟩:=keys_ofU k4 w4
       obtain rfl : c0 = _:=(List.cons.inj e0).1
       obtain rfl : c1 = _:=(List.cons.inj e1).1
       obtain rfl : c2 = _:=(List.cons.inj e2).1
       obtain rfl : c3 = _:=(List.cons.inj e3).1
       rw [e3'] at w3
       have ht:=Kdg w3
       have hb3 : uptoBulk y3.1 = s.data.toList.length + 1:=by rw [e3',bulk_str]
       have hb : uptoBulk (DataW.agg ([y0,y1,y2,y3,y4,y5].map (·.1))) = uptoBulk y0.1 + uptoBulk y1.1 + uptoBulk y2.1 + uptoBulk y3.1 + uptoBulk y4.1 + uptoBulk y5.1 + 1:=by simp only [List.map_cons,List.map_nil,uptoBulk,uptoBulkAll];omega
       have hp5:=bulk_pos y5.1
       have hrng:=int_rng hw
       rcases DataW.trod_slice Tryz.underlying29 k5 with ⟨hv,_⟩ | ⟨a,len,cap,elems,rest,m,rfl,hv,e5,_,hle,hm,hel,helt,_,_⟩
       ·cases hv
        refine ⟨.mk kd b num s.data.toList ks [],?_,rngV_mk.2 ⟨hrng,by simp [rngVs]⟩,by rw [Kdf];simp only [totVs];show _ ≤ uptoBulk (DataW.agg ([y0,y1,y2,y3,y4,y5].map (·.1)));omega⟩
        refine Kb0.2 ⟨pk,ck,none,0,by rw [strB_back];rfl,by omega,hks,⟨Nat.le_refl _,by simp,fun _=>rfl⟩,fun ad h=>by cases h⟩
       ·cases hv
        rw [e5] at w5
        obtain ⟨g1,g2⟩:=fits_slice Tryz.underlying29 w5
        rw [bytes26] at g1
        rw [cells26] at helt
        have hlenE : (elems.map (·.1)).length = len:=by simpa using hel
        rw [hlenE] at g1
        obtain ⟨f,hfv⟩:=Go.Deep.choose_lt (n:=len) (α:=V) (p:=fun i v=>∃ cs',w.cells? base (a.add (i * 6)) 6 = some cs' ∧ VRd w v cs'.toArray ∧ rngV v ∧ ∀ h9 : i < elems.length,totV v ≤ uptoBulk (elems[i]'h9).1) (fun i hi=>by
         have hi2 : i < elems.length:=by omega
         have h1:=helt i hi
         rw [List.getElem?_eq_getElem hi2] at h1
         obtain ⟨cs',h2,h3⟩:=Option.bind_eq_some_iff.1 h1
         obtain ⟨v,hv1,hv2,hv3⟩:=ih m (by omega) cs' elems[i] h3 (g2 _ (List.mem_map.2 ⟨elems[i],List.getElem_mem hi2,rfl⟩))
         exact ⟨v,cs',h2,hv1,hv2,fun _=>hv3⟩)
        have hspot : 0 < len → a.spot = none:=fun h0=>by
         obtain ⟨cs',h1,_⟩:=hfv 0 h0
         obtain ⟨_,hcl,hc⟩:=World.cells?_some h1
         have h3:=hc 0 (by omega)
         rw [List.getElem?_eq_getElem (by omega)] at h3
         have:=World.cell?_spot h3
         simpa [Addr.add] using this
        have hll : ((List.range len).map f).length = len:=by simp
        refine ⟨.mk kd b num s.data.toList ks ((List.range len).map f),?_,rngV_mk.2 ⟨hrng,rngVs_iff.2 fun v hv=>?_⟩,?_⟩
        ·refine Kb0.2 ⟨pk,ck,some a,cap,by rw [strB_back,hll],by omega,hks,⟨by rw [hll];exact hle,by rw [hll];exact ⟨by omega,hm⟩,fun e=>by cases e⟩,fun ad had=>?_⟩
         cases had
         refine ⟨fun hne=>hspot ?_,fun j v hv=>?_⟩
         ·rcases Nat.eq_zero_or_pos len with h0 | h0
          ·exact absurd (List.eq_nil_of_length_eq_zero (by rw [hll];exact h0)) hne
          ·exact h0
         ·have hj : j < len:=by
           have:=(List.getElem?_eq_some_iff.1 hv).1
           rwa [hll] at this
          have e : v = f j:=by
           have:=(List.getElem?_eq_some_iff.1 hv).2
           simpa using this.symm
          subst e
          obtain ⟨cs',h1,h2,_⟩:=hfv j hj
          have hs0:=hspot (by omega)
          obtain ⟨ab,ao,asp⟩:=a
          simp only at hs0
          subst hs0
          obtain ⟨_,hcl,hc⟩:=World.cells?_some h1
          match cs',hcl with
          | [u0,u1,u2,u3,u4,u5],_ =>
            have q0:=hc 0 (by omega)
            have q1:=hc 1 (by omega)
            have q2:=hc 2 (by omega)
            have q3:=hc 3 (by omega)
            have q4:=hc 4 (by omega)
            have q5:=hc 5 (by omega)
            simp only [Kap,Nat.add_zero] at q0 q1 q2 q3 q4 q5
            exact ⟨_,⟨u0,u1,u2,u3,u4,u5,rfl,q0,q1,q2,q3,q4,q5⟩,h2⟩
        ·obtain ⟨i,hi,rfl⟩:=List.mem_map.1 hv
         obtain ⟨_,_,_,h3,_⟩:=hfv i (List.mem_range.1 hi)
         exact h3
        ·have h1:=bulk_vals (elems.map (·.1)) ((List.range len).map f) (by rw [hll,hlenE]) fun i a b=>by
          obtain ⟨_,_,_,_,h4⟩:=hfv i (by rw [hll] at a;exact a)
          have:=h4 (by simpa using b)
          simpa using this
         have h2 : uptoBulkAll (elems.map (·.1)) < uptoBulk y5.1:=by rw [e5];exact bulk_slice _ _
         rw [Kdf]
         show _ ≤ uptoBulk (DataW.agg ([y0,y1,y2,y3,y4,y5].map (·.1)))
         omega
theorem rows_ofU {α : Type} [Inhabited α] {F : World → α → Array Value → Prop} {R : α → DataW H → Prop} {K : Nat} {T e : TypeId} (hT : Tryz.prog.underlying T = some (.slice e)) (hk : Tryz.prog.cellsOf e = K) (hK : 0 < K) (hby : 1 ≤ Tryz.prog.bytesOf e)
 (one : ∀ (m : Nat) (cs : List Value) (x : DataW H × List MemPlace),DataW.trod enc Tryz.prog w base (fun _=>true) held m e cs = some x → Fits e x.1 → ∃ v,F w v cs.toArray ∧ R v x.1)
 {fuel : Nat} {v0 : Value} {x : DataW H × List MemPlace} (h : DataW.trod enc Tryz.prog w base (fun _=>true) held fuel T [v0] = some x) (hf : Fits T x.1) :
 ∃ p c l,v0 = .slice p (List.length l) c ∧ GRd F K w p c l ∧ l.length < uptoBulk x.1 ∧ ∀ v ∈ l,∃ d,uptoBulk d < uptoBulk x.1 ∧ R v d:=by
 rcases DataW.trod_slice hT h with ⟨hv,_⟩ | ⟨a,len,cap,elems,rest,m,rfl,hv,e5,_,hle,hm,hel,helt,_,_⟩
 ·cases hv
  exact ⟨none,0,[],rfl,⟨⟨Nat.le_refl _,by simp,fun _=>rfl⟩,fun ad h=>by cases h⟩,by have:=bulk_pos x.1;simp;omega,by simp⟩
 ·cases hv
  rw [e5] at hf
  obtain ⟨g1,g2⟩:=fits_slice hT hf
  rw [hk] at helt
  have hlenE : (elems.map (·.1)).length = len:=by simpa using hel
  rw [hlenE] at g1
  have hl0 : len ≤ 140737488351232:=Nat.le_trans (Nat.le_mul_of_pos_right len hby) g1
  obtain ⟨f,hfv⟩:=Go.Deep.choose_lt (n:=len) (α:=α) (p:=fun i v=>∃ cs',w.cells? base (a.add (i * K)) K = some cs' ∧ F w v cs'.toArray ∧ ∀ h9 : i < elems.length,R v (elems[i]'h9).1) (fun i hi=>by
   have hi2 : i < elems.length:=by omega
   have h1:=helt i hi
   rw [List.getElem?_eq_getElem hi2] at h1
   obtain ⟨cs',h2,h3⟩:=Option.bind_eq_some_iff.1 h1
   obtain ⟨v,hv1,hv2⟩:=one m cs' elems[i] h3 (g2 _ (List.mem_map.2 ⟨elems[i],List.getElem_mem hi2,rfl⟩))
   exact ⟨v,cs',h2,hv1,fun _=>hv2⟩)
  have hspot : 0 < len → a.spot = none:=fun h0=>by
   obtain ⟨cs',h1,_⟩:=hfv 0 h0
   obtain ⟨_,hcl,hc⟩:=World.cells?_some h1
   have h3:=hc 0 (by omega)
   rw [List.getElem?_eq_getElem (by omega)] at h3
   have:=World.cell?_spot h3
   simpa [Addr.add] using this
  have hll : ((List.range len).map f).length = len:=by simp
  have hsl : uptoBulkAll (elems.map (·.1)) < uptoBulk x.1:=by rw [e5];exact bulk_slice _ _
  have hbl:=bulk_len (elems.map (·.1))
  refine ⟨some a,cap,(List.range len).map f,by rw [hll],⟨⟨by rw [hll];exact hle,by rw [hll];exact ⟨by omega,hm⟩,fun e=>by cases e⟩,fun ad had=>?_⟩,by rw [hll];omega,fun v hv=>?_⟩
  ·cases had
   refine ⟨fun hne=>hspot ?_,fun j v hv=>?_⟩
   ·rcases Nat.eq_zero_or_pos len with h0 | h0
    ·exact absurd (List.eq_nil_of_length_eq_zero (by rw [hll];exact h0)) hne
    ·exact h0
   ·have hj : j < len:=by
     have:=(List.getElem?_eq_some_iff.1 hv).1
     rwa [hll] at this
    have e : v = f j:=by
     have:=(List.getElem?_eq_some_iff.1 hv).2
     simpa using this.symm
    subst e
    obtain ⟨cs',h1,h2,_⟩:=hfv j hj
    have hs0:=hspot (by omega)
    obtain ⟨ab,ao,asp⟩:=a
    simp only at hs0
    subst hs0
    obtain ⟨_,hcl,hc⟩:=World.cells?_some h1
    refine ⟨cs'.toArray,by simpa using hcl,fun i u hu=>?_,h2⟩
    have hi : i < K:=by
     have:=(Array.getElem?_eq_some_iff.1 hu).1
     rw [← hcl];simpa using this
    have q:=hc i hi
    simp only [Kap] at q
    rw [q]
    simpa using hu
  ·obtain ⟨i,hi,rfl⟩:=List.mem_map.1 hv
   have hi9 : i < elems.length:=by have:=List.mem_range.1 hi;omega
   obtain ⟨_,_,_,h3⟩:=hfv i (List.mem_range.1 hi)
   exact ⟨_,Nat.lt_of_le_of_lt (bulk_mem (List.mem_map.2 ⟨elems[i],List.getElem_mem hi9,rfl⟩)) hsl,h3 hi9⟩
theorem prop_ofU (fuel : Nat) (cs : List Value) (x : DataW H × List MemPlace) (h : DataW.trod enc Tryz.prog w base (fun _=>true) held fuel 47 cs = some x) (hf : Fits 47 x.1) : ∃ v,PRd w v cs.toArray ∧ rngP v ∧ totV v.val ≤ uptoBulk x.1:=by
 obtain ⟨xs,n,rfl,rfl,hl,hlen,hfl⟩:=DataW.trod_struct Tryz.underlying47 h
 rw [cellsP] at hl
 match xs,hlen with
 | [y0,y1],_ =>
   match cs,hl with
   | [c0,c1,c2,c3,c4,c5,c6],_ =>
     have k0:=hfl 0 _ rfl
     have k1:=hfl 1 _ rfl
     simp only [cells9,cells26,List.drop_zero,List.drop_succ_cons,List.take_succ_cons,List.take_zero,List.getElem?_cons_zero,List.getElem?_cons_succ] at k0 k1
     have hw : Fits 9 y0.1 ∧ Fits 31 y1.1:=by
      unfold Fits at hf
      rw [DataW.weights,Tryz.underlying47] at hf
      simp only [List.map_cons,List.map_nil,DataW.weightsEach,List.append_nil,List.mem_append] at hf
      exact ⟨fun n hn=>hf n (by simp [hn]),fun n hn=>hf n (by simp [hn])⟩
     obtain ⟨s,e0,e0',_⟩:=DataW.trod_string Tryz.underlying9 k0
     obtain ⟨v,hv1,hv2,hv3⟩:=value_ofU _ _ _ k1 hw.2
     obtain rfl : c0 = _:=(List.cons.inj e0).1
     have hs:=hw.1
     rw [e0'] at hs
     have ht:=Kdg hs
     refine ⟨⟨s.data.toList,v⟩,⟨#[c1,c2,c3,c4,c5,c6],by rw [strB_back];rfl,by simp only;omega,hv1⟩,hv2,?_⟩
     have hb:=bulk_agg ([y0,y1].map (·.1))
     simp only [List.map_cons,List.map_nil,uptoBulkAll] at hb
     show totV v ≤ uptoBulk (DataW.agg ([y0,y1].map (·.1)))
     simp only [List.map_cons,List.map_nil]
     omega
theorem props_ofU {fuel : Nat} {v0 : Value} {x : DataW H × List MemPlace} (h : DataW.trod enc Tryz.prog w base (fun _=>true) held fuel 27 [v0] = some x) (hf : Fits 27 x.1) : ∃ p c l,v0 = .slice p (List.length l) c ∧ GRd PRd 7 w p c l ∧ (∀ v ∈ l,rngP v) ∧ (uptoBulk x.1 ≤ 1048576 → PsOk l):=by
 obtain ⟨p,c,l,e,h1,h2,h3⟩:=rows_ofU (R:=fun v d=>rngP v ∧ totV v.val ≤ uptoBulk d) Tryz.underlying27 cellsP (by omega) bytesP prop_ofU h hf
 refine ⟨p,c,l,e,h1,fun v hv=>(h3 v hv).choose_spec.2.1,fun hb=>⟨by omega,fun v hv=>⟨?_,?_⟩⟩⟩
 ·obtain ⟨i,hi,rfl⟩:=List.getElem_of_mem hv
  obtain ⟨_,_,_,_,_,_,y,_,hk,_⟩:=h1.get hi
  exact hk
 ·obtain ⟨d,h4,_,h5⟩:=h3 v hv
  omega
end
end Go.Proofs.YtihfnegakcghiaaGreatDoor
namespace Go.Proofs.YtihfnegakcghiaaGreatDoor
open Go.ChangeShapes Go.WideShapes Go.ChangeAt Go.RowKit Go.Joins
theorem returns_upto {H : Type} {enc : TypeId × Value → H} {os : Os} {f : FuncId} {fn : Func} {s : ChangeSpec} {F : Stop.Interp} (started : os.Started) (noInit : Tryz.prog.inits.idxOf? f = none) (hfn : Tryz.prog.funcs[f]? = some fn) (args0 : Array Value)
 (w0 : ((World.laidAll Tryz.prog os LD).forCall (fun _ _=>0) ⟨#[],args0,[]⟩).variablesB Tryz.checked.prog = true)
 (w1 : (((World.laidAll Tryz.prog os LD).forCall (fun _ _=>0) ⟨#[],args0,[]⟩).heap.toList.drop Tryz.checked.prog.globals.size).take ((begin Tryz.checked.prog (fun _ _=>0) default).world.heap.size - Tryz.checked.prog.globals.size) = (begin Tryz.checked.prog (fun _ _=>0) default).world.heap.toList.drop Tryz.checked.prog.globals.size)
 (w2 : Input.okWideB Tryz.checked.prog ((World.laidAll Tryz.prog os LD).forCall (fun _ _=>0) ⟨#[],args0,[]⟩) f ⟨#[],args0,[]⟩ = true)
 {x : List (DataW H) × List (DataW H) × List MemPlace} (w3 : DataW.whole enc Tryz.checked.prog ((World.laidAll Tryz.prog os LD).forCall (fun _ _=>0) ⟨#[],args0,[]⟩).memory fn.params.toList (Rows.OpenSpec.upto s).vars false args0.toList 8 = some x)
 (w4 : Rows.uptoSmall H (x.1 ++ x.2.1) = true)
 (w5 : (Rows.OpenSpec.upto s).bare.sizedB enc Tryz.checked.prog fn false ((World.laidAll Tryz.prog os LD).forCall (fun _ _=>0) ⟨#[],args0,[]⟩).memory args0 8 = true)
 (w6 : laidMetH Tryz.prog LD ((World.laidAll Tryz.prog os LD).forCall (fun _ _=>0) ⟨#[],args0,[]⟩).memory)
 (contract : ∀ (W : World) (base : Nat) (args : Array Value) (ds gs : List (DataW H)) (before : List MemPlace),
   (∀ (j : Nat) t v,fn.params[j]? = some t → args[j]? = some v → Value.okWide Tryz.prog W .any base t v) →
   DataW.Whole enc Tryz.prog fn.params.toList s.vars false W args.toList ds gs before →
   Rows.uptoBulkAll (ds ++ gs) ≤ 1048576 →
   (DataW.weightsEach Tryz.prog (fn.params.toList ++ s.plain.varTypes Tryz.prog) (ds ++ gs)).all (· ≤ reachBytes) = true → Env W →
   Calls Tryz.prog f args W fun e W'=>∃ v,e = .returned v ∧ s.post enc Tryz.prog fn false true false false W args v W') :
 ReturnsInHanded {} Tryz.checked os f .any ((Rows.OpenSpec.upto s).preRow enc Tryz.prog fn [] false LD) (((Rows.OpenSpec.upto s).at F).post enc Tryz.prog fn false true false false):=by
 refine returnsInHanded_of_row (C:=Tryz.checked) (s:=Rows.OpenSpec.upto s) ownT started noInit hfn
  (witness_row_at (enc:=enc) (C:=Tryz.checked) false (World.laidAll Tryz.prog os LD) args0 (World.laidAll_os _ _ _) w0 w1 w2
    (OpenSpec.preRow_of_cond 8 w3 (by rfl) (fun k hk=>by cases hk;exact w4) w5 w6)) ?_
 intro W base args ds gs before hval hW _ hcond hz hL hsh _
 exact contract W base args ds gs before hval hW (of_decide_eq_true (hcond _ rfl)) hz (env_of hL hsh)
end Go.Proofs.YtihfnegakcghiaaGreatDoor
namespace Go.Proofs.YtihfnegakcghiaaGreatDoor
open Go.RowKit
def RdB (w : World) (v : Value) (l : List UInt8) : Prop :=
 ∃ a cap,v = .slice a l.length cap ∧ (l.length ≤ cap ∧ cap ≤ maxLen ∧ (a = none → cap = 0)) ∧ (∀ ad,a = some ad → (l ≠ [] → ad.spot = none) ∧ ∀ i b,l[i]? = some b → w.cell? ⟨ad.block,ad.off + i,none⟩ = some (.int .u8 (b.toNat : Int)))
theorem RdB.below {w w' : World} {v : Value} {l : List UInt8} (h : RdB w v l) (hb : Below w.heap.size w w') : RdB w' v l:=by
 obtain ⟨a,cap,rfl,h1,h2⟩:=h
 refine ⟨a,cap,rfl,h1,fun ad had=>⟨(h2 ad had).1,fun i b hi=>?_⟩⟩
 have h3:=(h2 ad had).2 i b hi
 exact (hb.cell (p:=⟨ad.block,ad.off + i,none⟩) (World.block_lt_of_cell? w _ h3)).trans h3
theorem RdB.at {w : World} {ad : Addr} {n c : Nat} {l : List UInt8} (h : RdB w (.slice (some ad) n c) l) (i : Nat) (b : UInt8) (hi : l[i]? = some b) : w.cell? (ad.add i) = some (.int .u8 (b.toNat : Int)):=by
 obtain ⟨a',cap,heq,h1,h2⟩:=h
 cases heq
 have hs:=(h2 ad rfl).1 (fun e=>by rw [e] at hi;simp at hi)
 have hc:=(h2 ad rfl).2 i b hi
 obtain ⟨x,o,sp⟩:=ad
 simp only at hs;subst hs
 have ha : (⟨x,o,none⟩ : Addr).add i = ⟨x,o + i,none⟩:=by unfold Addr.add;split <;> simp_all
 rw [ha];exact hc
section
variable {P : Program} {t e : TypeId} {s : Nat}
end
attribute [local go_sem] Oper.semAt_some
end Go.Proofs.YtihfnegakcghiaaGreatDoor
