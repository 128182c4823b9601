/- The document's Book: what a disk's bytes are as a book. Printed by gen_refb.py. -/
import Derived.Test.YtmgajgeoibbmjaaRefn
import Derived.Test.YtmgajgeoibbmjaaLook2
namespace Go.Proofs.Ytmgajgeoibbmjaa
open Go.RowKit

section
variable {P : Program} {ops : Array Oper} {a : Act} {w : World} {S : World → Prop} {fuel : Nat} {listed : Array Bool} {K : Exit → Act → World → Prop} {o : Oper}
theorem onlyNot (i d : Nat) {oi : Oper} (hi : ops[i]? = some oi) (hdst : oi.dst = some d) (hr : Region.ready .any ops listed = [i]) (hw : Region.wanted oi (yielded ops a.tmps) = false)
    (h : wpE P ops K S fuel (listed.setIfInBounds i true) (a.put (some d) undef) w) (hS : lastly ops i = true ∨ S w) : wpE P ops K S (fuel + 1) listed a w := by
  intro _
  refine ⟨fun h => (by rw [h] at hr; cases hr), fun j hj => ?_⟩
  rw [hr] at hj
  obtain rfl : j = i := by simpa using hj
  unfold wpOp
  simp only [hi, hw]
  exact ⟨hS, hdst ▸ h⟩
theorem exec_bini {op : BinOp} {t t' : TypeId} {x y : Operand} {n m : Int} {v : Value} (ho : o.op = .binOp op t x y t') (hx : a.eval x = .int .i64 n) (hy : a.eval y = .int .i64 m)
    (hr : (binOp op t (.int .i64 n) (.int .i64 m)).run P w = .ok v w) : (execOp a.eval o).run P w = .ok (.value v) w := by
  unfold execOp; rw [ho]; simp only [hx, hy]
  have e : eqGuard op t x y (.int .i64 n) (.int .i64 m) = pure () := by unfold eqGuard; cases op <;> rfl
  simp only [e, Sem.run_bind, Sem.run_pure, Result.andThen_ok, hr]
theorem exec_bins {op : BinOp} {t t' : TypeId} {x y : Operand} {n m : ByteArray} {v : Value} (ho : o.op = .binOp op t x y t') (hx : a.eval x = .string n) (hy : a.eval y = .string m)
    (hr : (binOp op t (.string n) (.string m)).run P w = .ok v w) : (execOp a.eval o).run P w = .ok (.value v) w := by
  unfold execOp; rw [ho]; simp only [hx, hy]
  have e : eqGuard op t x y (.string n) (.string m) = pure () := by unfold eqGuard; cases op <;> rfl
  simp only [e, Sem.run_bind, Sem.run_pure, Result.andThen_ok, hr]
theorem exec_convert {s t : TypeId} {x : Operand} {vx v : Value} {w' : World} (ho : o.op = .convert s t x) (hx : a.eval x = vx) (hr : (convert s t vx).run P w = .ok v w') : (execOp a.eval o).run P w = .ok (.value v) w' := by
  unfold execOp; rw [ho]; simp only [hx, Sem.run_bind, hr, Result.andThen_ok, Sem.run_pure]
end

theorem strB_extract (l : List UInt8) (i j : Nat) : (strB l).extract i j = strB ((l.drop i).take (j - i)) := by
  apply ByteArray.ext
  simp [strB, ByteArray.data_extract]
theorem str_slice (l : List UInt8) (lo hi : Option Int) (i j : Nat) (hlo : ∀ x, lo = some x → x = (i : Int)) (hlo' : lo = none → i = 0) (hhi : ∀ x, hi = some x → x = (j : Int)) (hhi' : hi = none → j = l.length) (h1 : i ≤ j) (h2 : j ≤ l.length) (W : World) :
    (Instr.sliceAt 9 (.string (strB l)) (lo.map (.int .i64)) (hi.map (.int .i64)) none).run Try.prog W = .ok (.string (strB ((l.drop i).take (j - i)))) W := by
  have hsz := strB_size l
  have hb : (Instr.sliceBounds false (strB l).size (strB l).size (lo.map (.int .i64)) (hi.map (.int .i64)) none).run Try.prog W = .ok (i, j, (strB l).size) W := by
    have e1 : ∀ (x y : Nat) (code : BoundsCode), x ≤ y → (Instr.sliceBound (.int .i64 (x : Int)) y code).run Try.prog W = .ok x W := fun x y code hxy => by
      simp [Instr.sliceBound, asIntOf, Sem.run_bind, hxy]
    cases lo with
    | none =>
      obtain rfl := hlo' rfl
      cases hi with
      | none => obtain rfl := hhi' rfl; simp [Instr.sliceBounds, hsz]
      | some x => obtain rfl := hhi x rfl; simp [Instr.sliceBounds, Sem.run_bind, hsz, e1 j l.length _ h2]
    | some y =>
      obtain rfl := hlo y rfl
      cases hi with
      | none => obtain rfl := hhi' rfl; simp [Instr.sliceBounds, Sem.run_bind, hsz, e1 i l.length _ h1]
      | some x => obtain rfl := hhi x rfl; simp [Instr.sliceBounds, Sem.run_bind, hsz, e1 j l.length _ h2, e1 i j _ h1]
  have e : (Instr.sliceAt 9 (.string (strB l)) (lo.map (.int .i64)) (hi.map (.int .i64)) none).run Try.prog W = (Instr.slice 9 (.string (strB l)) (lo.map (.int .i64)) (hi.map (.int .i64)) none).run Try.prog W := by
    simp [Instr.sliceAt, run_underlying Try.underlying9]
  rw [e]
  simp only [Instr.slice, Sem.run_bind, run_underlying Try.underlying9, Result.andThen_ok, hb, Sem.run_pure, Option.isSome_none, Bool.false_eq_true, if_false, strB_extract]

theorem readB_add (d : DM) (p m : Nat) : ∀ q, readB d p (m + q) = readB d p m ++ readB d (p + m) q
  | 0 => by simp [readB]
  | q + 1 => by rw [← Nat.add_assoc, readB_succ, readB_add d p m q, readB_succ, List.append_assoc, Nat.add_assoc]
theorem readB_drop {d : DM} (h : d.Ok) (p m q : Nat) : (readB d p (m + q)).drop (512 * m) = readB d (p + m) q := by
  rw [readB_add, List.drop_left' (readB_length h p m)]
theorem readB_piece {d : DM} (h : d.Ok) (n p q k : Nat) (hk : k ≤ 512 * q) (hn : p + q ≤ n) : ((readB d 0 n).drop (512 * p)).take k = (readB d p q).take k := by
  obtain ⟨r, rfl⟩ : ∃ r, n = p + (q + r) := ⟨n - p - q, by omega⟩
  rw [readB_drop h, Nat.zero_add, readB_add, List.take_append_of_le_length (by rw [readB_length h]; exact hk)]
theorem blkAt_len {d : DM} (h : d.Ok) (k : Nat) : (blkAt d k).length = 512 := by
  have := readB_length h k 1; rw [readB_one] at this; exact this
theorem readB_blk {d : DM} (h : d.Ok) (n k : Nat) (hk : k < n) : ((readB d 0 n).drop (512 * k)).take 512 = blkAt d k := by
  rw [readB_piece h n k 1 512 (by omega) (by omega), readB_one]
  exact List.take_of_length_le (by rw [blkAt_len h]; omega)

theorem headOk_not (b : List UInt8) (k q : Nat) : headOk b k q = (!(decide (hN b < 1)) && !(decide (hN b > 4611686018427387904)) && !((hN b).tmod 2 != (k : Int)) && !(decide (hL b < 0)) && !(decide (hL b > (q : Int) * 512)) && !(decide (b.drop 16 ≠ zeros 496))) := by
  have e1 : decide (1 ≤ hN b) = !(decide (hN b < 1)) := by rw [← decide_not]; congr 1; rw [eq_iff_iff]; omega
  have e2 : decide (hN b ≤ 4611686018427387904) = !(decide (hN b > 4611686018427387904)) := by rw [← decide_not]; congr 1; rw [eq_iff_iff]; omega
  have e3 : ((hN b).tmod 2 == (k : Int)) = !((hN b).tmod 2 != (k : Int)) := by rw [bne, Bool.not_not]
  have e4 : decide (0 ≤ hL b) = !(decide (hL b < 0)) := by rw [← decide_not]; congr 1; rw [eq_iff_iff]; omega
  have e5 : decide (hL b ≤ (q : Int) * 512) = !(decide (hL b > (q : Int) * 512)) := by rw [← decide_not]; congr 1; rw [eq_iff_iff]; omega
  have e6 : decide (b.drop 16 = zeros 496) = !(decide (b.drop 16 ≠ zeros 496)) := by rw [← decide_not]; congr 1; rw [eq_iff_iff, Decidable.not_not]
  unfold headOk
  rw [e1, e2, e3, e4, e5, e6]
theorem run_nes (x y : List UInt8) (W : World) : (binOp .neq 9 (.string (strB x)) (.string (strB y))).run Try.prog W = .ok (.bool (decide (x ≠ y))) W := by
  have e : ((strB x).toList == (strB y).toList) = decide (x = y) := by rw [strB_toList, strB_toList, Bool.eq_iff_iff, beq_iff_eq, decide_eq_true_iff]
  have e' : (x == y) = decide (x = y) := by rw [Bool.eq_iff_iff, beq_iff_eq, decide_eq_true_iff]
  simp [go_sem, e, strB_toList, e']

def BookEnd (w : World) (d : DM) (e : Ending) (w' : World) : Prop :=
  Below w.heap.size w w' ∧ match looked d with
    | none => e = .returned (.tuple #[.string (strB []), .int .i64 0])
    | some (n, l) => e = .returned (.tuple #[.string (strB l), .int .i64 n])

end Go.Proofs.Ytmgajgeoibbmjaa
