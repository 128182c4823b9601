/- The book: which heads count. -/
import Derived.Test.YtmgajgeoibbmjaaYield
namespace Go.Proofs.Ytmgajgeoibbmjaa
open Go.RowKit

section
variable {P : Program} {a : Act} {w w' : World} {o : Oper} {v : Value}
theorem exec_slice {t : TypeId} {x : Operand} {lo hi mx : Option Operand} {vx : Value} {lo' hi' mx' : Option Value} (ho : o.op = .slice t x lo hi mx) (hx : a.eval x = vx) (hlo : lo.map a.eval = lo') (hhi : hi.map a.eval = hi') (hmx : mx.map a.eval = mx')
    (hr : (Instr.sliceAt t vx lo' hi' mx').run P w = .ok v w') : (execOp a.eval o).run P w = .ok (.value v) w' := by
  unfold execOp; rw [ho]; simp only [hx, hlo, hhi, hmx, Sem.run_bind, hr, Result.andThen_ok, Sem.run_pure]
theorem exec_move {x : Operand} (ho : o.op = .move x) (hx : a.eval x = v) : (execOp a.eval o).run P w = .ok (.value v) w := by
  unfold execOp; rw [ho]; simp only [hx, Sem.run_pure]
end

/-- A piece of bytes that can be read. -/
theorem sub_rd {W : World} {a : Option Addr} {n c : Nat} {l : List UInt8} (h : RdB W (.slice a n c) l) (lo hi : Option Int) (l0 h0 : Nat)
    (hlo : ∀ i, lo = some i → i = (l0 : Int)) (hlo' : lo = none → l0 = 0) (hhi : ∀ i, hi = some i → i = (h0 : Int)) (hhi' : hi = none → h0 = n) (h1 : l0 ≤ h0) (h2 : h0 ≤ n) :
    ∃ a', (∀ W', (Instr.sliceAt 35 (.slice a n c) (lo.map (.int .i64)) (hi.map (.int .i64)) none).run Try.prog W' = .ok (.slice a' (h0 - l0) (c - l0)) W') ∧
      RdB W (.slice a' (h0 - l0) (c - l0)) ((l.drop l0).take (h0 - l0)) ∧ (∀ g, (Value.slice a' (h0 - l0) (c - l0)).ownBlock = some g → (Value.slice a n c).ownBlock = some g) := by
  obtain ⟨a1, cap, heq, ⟨hn, hm, hz⟩, hcell⟩ := h
  cases heq
  have hlen : ((l.drop l0).take (h0 - l0)).length = h0 - l0 := by rw [List.length_take, List.length_drop]; omega
  refine ⟨_, fun W' => by rw [run_sliceAt_gen Try.underlying35]; exact run_slice_gen (P := Try.prog) Try.underlying35 Try.sizeOf5 a _ c lo hi l0 h0 hlo hlo' hhi hhi' h1 (by omega) W', ?_, ?_⟩
  · refine ⟨_, _, by rw [hlen], ⟨by omega, by omega, fun e => ?_⟩, fun ad had => ?_⟩
    · split at e
      · omega
      · cases a with
        | none => have := hz rfl; omega
        | some ad => cases e
    · split at had
      · rename_i hc
        subst had
        obtain ⟨hs, hcl⟩ := hcell ad rfl
        refine ⟨fun hne => hs fun e => hne (by rw [e]; simp), fun i b hi => ?_⟩
        have : i < h0 - l0 := by
          have := (List.getElem?_eq_some_iff.1 hi).1; omega
        omega
      · cases a with
        | none => cases had
        | some ad0 =>
          obtain ⟨hs, hcl⟩ := hcell ad0 rfl
          by_cases hl0 : l = []
          · subst hl0
            exact ⟨fun h => absurd (by simp) h, fun i b hi => (by simp at hi)⟩
          replace hs := hs hl0
          obtain ⟨b0, o0, sp0⟩ := ad0
          simp only at hs; subst hs
          simp only [Option.map_some, addr_add, Option.some.injEq] at had
          subst had
          refine ⟨fun _ => rfl, fun i b hi => ?_⟩
          have hi' : l[l0 + i]? = some b := by
            rw [List.getElem?_take] at hi
            split at hi
            · rwa [List.getElem?_drop] at hi
            · cases hi
          have := hcl (l0 + i) b hi'
          simpa [Nat.add_assoc] using this
  · intro g hg
    cases a with
    | none => split at hg <;> cases hg
    | some ad0 =>
      split at hg
      · exact hg
      · obtain ⟨b0, o0, sp0⟩ := ad0
        have e : ∀ (A : Addr) k, (A.add k).block = A.block := fun A k => by unfold Addr.add; split <;> rfl
        rw [← hg]; exact congrArg some (e _ _).symm

/-! ### heads -/
/-- Block k, as it is read. -/
def blkAt (d : DM) (k : Nat) : List UInt8 := (d.seen (k : Int)).getD zblk
def hN (b : List UInt8) : Int := wrap64 (leNat (b.take 8))
def hL (b : List UInt8) : Int := wrap64 (leNat ((b.drop 8).take 8))
/-- A head that counts: in block k, of a disk with halves of q blocks. -/
def headOk (b : List UInt8) (k q : Nat) : Bool :=
  decide (1 ≤ hN b) && decide (hN b ≤ 4611686018427387904) && ((hN b).tmod 2 == (k : Int)) && decide (0 ≤ hL b) && decide (hL b ≤ (q : Int) * 512) && decide (b.drop 16 = zeros 496)
def headOf (d : DM) (k : Nat) : Option (Int × Int) := if headOk (blkAt d k) k (hf d) then some (hN (blkAt d k), hL (blkAt d k)) else none
def upTo {α : Type} (f : Nat → Option α) (k : Nat) : List α := (List.range k).filterMap f
theorem upTo_succ {α : Type} (f : Nat → Option α) (k : Nat) : upTo f (k + 1) = upTo f k ++ (f k).toList := by
  simp only [upTo, List.range_succ, List.filterMap_append, List.filterMap_cons, List.filterMap_nil]
  cases f k <;> rfl
abbrev heads (d : DM) (k : Nat) : List (Int × Int) := upTo (headOf d) k
theorem heads_none {d : DM} {k : Nat} (h : headOf d k = none) : heads d (k + 1) = heads d k := by
  have e := upTo_succ (headOf d) k
  rw [h] at e
  exact e.trans (List.append_nil _)
theorem heads_some {d : DM} {k : Nat} {x : Int × Int} (h : headOf d k = some x) : heads d (k + 1) = heads d k ++ [x] := by
  have e := upTo_succ (headOf d) k
  rw [h] at e
  exact e
theorem readB_one (d : DM) (k : Nat) : readB d k 1 = blkAt d k := by simp [readB, blkAt]
end Go.Proofs.Ytmgajgeoibbmjaa
