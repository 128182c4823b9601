/- Bytes in memory, and the smallest functions on them. -/
import Derived.Test.YtmgajgeoibbmjaaRange
import Derived.Lib.Hide
namespace Go.Proofs.Ytmgajgeoibbmjaa
open Go.RowKit

/-- A byte as a value. -/
def Bv (b : UInt8) : Value := .int .u8 (b.toNat : Int)

/-- A value reads as these bytes: a slice of them. -/
def RdB (w : World) (v : Value) (l : List UInt8) : Prop :=
  ∃ a cap, v = .slice a l.length cap ∧ (l.length ≤ cap ∧ cap ≤ maxLen ∧ (a = none → cap = 0)) ∧ (∀ ad, a = some ad → (l ≠ [] → ad.spot = none) ∧ ∀ i b, l[i]? = some b → w.cell? ⟨ad.block, ad.off + i, none⟩ = some (.int .u8 (b.toNat : Int)))

theorem RdB.below {w w' : World} {v : Value} {l : List UInt8} (h : RdB w v l) (hb : Below w.heap.size w w') : RdB w' v l := by
  obtain ⟨a, cap, rfl, h1, h2⟩ := h
  refine ⟨a, cap, rfl, h1, fun ad had => ⟨(h2 ad had).1, fun i b hi => ?_⟩⟩
  have h3 := (h2 ad had).2 i b hi
  exact (hb.cell (p := ⟨ad.block, ad.off + i, none⟩) (World.block_lt_of_cell? w _ h3)).trans h3

theorem RdB.at {w : World} {ad : Addr} {n c : Nat} {l : List UInt8} (h : RdB w (.slice (some ad) n c) l) (i : Nat) (b : UInt8) (hi : l[i]? = some b) : w.cell? (ad.add i) = some (.int .u8 (b.toNat : Int)) := by
  obtain ⟨a', cap, heq, h1, h2⟩ := h
  cases heq
  have hs := (h2 ad rfl).1 (fun e => by rw [e] at hi; simp at hi)
  have hc := (h2 ad rfl).2 i b hi
  obtain ⟨x, o, sp⟩ := ad
  simp only at hs; subst hs
  have ha : (⟨x, o, none⟩ : Addr).add i = ⟨x, o + i, none⟩ := by unfold Addr.add; split <;> simp_all
  rw [ha]; exact hc
/-! Pieces of slices and strings, as run equations. -/
section
variable {P : Program} {t e : TypeId} {s : Nat}
theorem run_slice_gen (ht : P.underlying t = some (.slice e)) (hs : ∀ w, (sizeOf e).run P w = .ok s w) (a : Option Addr) (len cap : Nat) (lo hi : Option Int) (l h : Nat)
    (hlo : ∀ i, lo = some i → i = (l : Int)) (hlo' : lo = none → l = 0) (hhi : ∀ i, hi = some i → i = (h : Int)) (hhi' : hi = none → h = len) (h1 : l ≤ h) (h2 : h ≤ cap) (W : World) :
    (Instr.slice t (.slice a len cap) (lo.map (.int .i64)) (hi.map (.int .i64)) none).run P W = .ok (.slice (if cap = l then a else a.map (·.add (l * s))) (h - l) (cap - l)) W := by
  have hb : (Instr.sliceBounds true len cap (lo.map (.int .i64)) (hi.map (.int .i64)) none).run P W = .ok (l, h, cap) W := by
    have e1 : ∀ (x y : Nat) (code : BoundsCode), x ≤ y → (Instr.sliceBound (.int .i64 (x : Int)) y code).run P W = .ok x W := fun x y code hxy => by
      simp [Instr.sliceBound, asIntOf, Sem.run_bind, hxy]
    cases lo with
    | none =>
      obtain rfl := hlo' rfl
      cases hi with
      | none => obtain rfl := hhi' rfl; simp [Instr.sliceBounds]
      | some i => obtain rfl := hhi i rfl; simp [Instr.sliceBounds, Sem.run_bind, e1 h cap _ h2]
    | some j =>
      obtain rfl := hlo j rfl
      cases hi with
      | none => obtain rfl := hhi' rfl; simp [Instr.sliceBounds, Sem.run_bind, e1 l h _ h1]
      | some i => obtain rfl := hhi i rfl; simp [Instr.sliceBounds, Sem.run_bind, e1 h cap _ h2, e1 l h _ h1]
  simp only [Instr.slice, Sem.run_bind, run_underlying ht, Result.andThen_ok, hb, hs, Sem.run_pure]
theorem run_sliceAt_gen (ht : P.underlying t = some (.slice e)) (x : Value) (lo hi mx : Option Value) (W : World) : (Instr.sliceAt t x lo hi mx).run P W = (Instr.slice t x lo hi mx).run P W := by
  simp [Instr.sliceAt, run_underlying ht]
end

/-- What slices.Backward hands out. -/
def backs (l : List UInt8) (k : Nat) : List (UInt8 × Nat) := (List.range k).map fun j => (l.getD (l.length - 1 - j) 0, l.length - 1 - j)
theorem backs_succ (l : List UInt8) (k : Nat) : backs l (k + 1) = backs l k ++ [(l.getD (l.length - 1 - k) 0, l.length - 1 - k)] := by simp [backs, List.range_succ]

theorem u8_lt (b : UInt8) : (b.toNat : Int) < 256 := by have := b.toNat_lt; omega

attribute [local go_sem] Oper.semAt_some

/-- A number out of bytes, the lowest first. -/
def leNat (l : List UInt8) : Nat := l.foldr (fun b n => b.toNat + 256 * n) 0
theorem leNat_lt (l : List UInt8) : leNat l < 256 ^ l.length := by
  induction l with
  | nil => simp [leNat]
  | cons b l ih =>
    have := b.toNat_lt
    simp only [leNat, List.foldr_cons, List.length_cons, Nat.pow_succ] at *
    omega
theorem leNat_drop (l : List UInt8) (k : Nat) (hk : k < l.length) : leNat (l.drop (l.length - (k + 1))) = (l.getD (l.length - 1 - k) 0).toNat + 256 * leNat (l.drop (l.length - k)) := by
  have h1 : l.length - (k + 1) < l.length := by omega
  rw [List.drop_eq_getElem_cons h1]
  have h2 : l.length - (k + 1) + 1 = l.length - k := by omega
  have h3 : l.length - 1 - k = l.length - (k + 1) := by omega
  simp [leNat, h2, h3, h1]

theorem or_step (A b : Nat) (hA : 256 * A + b < 18446744073709551616) (hb : b < 256) :
    bits .or .u64 (IntKind.u64.wrap ((A : Int) * 256)) (IntKind.u64.wrap (b : Int)) = ((b + 256 * A : Nat) : Int) := by
  have w1 : IntKind.u64.wrap ((A : Int) * 256) = ((A * 256 : Nat) : Int) := by simp [IntKind.wrap, IntKind.signed, IntKind.bits]; omega
  have w2 : IntKind.u64.wrap (b : Int) = (b : Int) := by simp [IntKind.wrap, IntKind.signed, IntKind.bits]; omega
  rw [w1, w2, bits_or_u64_nat _ _ (by omega) (by omega)]
  have h := Nat.two_pow_add_eq_or_of_lt (i := 8) (b := b) (by simpa using hb) A
  have h2 : 2 ^ 8 * A = A * 256 := by omega
  rw [h2] at h
  rw [← h]; congr 1; omega

end Go.Proofs.Ytmgajgeoibbmjaa
