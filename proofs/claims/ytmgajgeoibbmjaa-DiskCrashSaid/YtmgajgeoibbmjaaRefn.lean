/- The document's Padded, Number, Half; the law's fill. -/
import Derived.Test.YtmgajgeoibbmjaaStrb
import Derived.Test.YtmgajgeoibbmjaaFormat
namespace Go.Proofs.Ytmgajgeoibbmjaa
open Go.RowKit

theorem strB_append (a b : List UInt8) : strB a ++ strB b = strB (a ++ b) := by
  apply ByteArray.ext; simp [strB, ByteArray.data_append]
theorem strB_size (a : List UInt8) : (strB a).size = a.length := rfl
theorem strB_sl (s : ByteArray) : strB (sl s) = s := by apply ByteArray.ext; simp [strB, sl]
theorem sl_strB (l : List UInt8) : sl (strB l) = l := rfl

theorem strB_get (l : List UInt8) (j : Nat) (h : j < (strB l).size) : (strB l)[j] = l[j]'(by rw [strB_size] at h; exact h) := rfl

/-- Noughts as a text. -/
theorem made_string (n : Nat) (hn : n ≤ 16777216) (w : World) : ∃ W', (Instr.makeSlice 35 (.int .i64 (n : Int)) (.int .i64 (n : Int))).run Try.prog w = .ok (.slice (some ⟨w.heap.size, 0, none⟩) n n) W' ∧
    (convert 35 9 (.slice (some ⟨w.heap.size, 0, none⟩) n n)).run Try.prog W' = .ok (.string (strB (zeros n))) W' ∧ Below w.heap.size w W' := by
  obtain ⟨W', h1, h2, h3⟩ := make_zeros n hn w
  exact ⟨W', h1, run_str h2.rd, h3⟩

theorem wrap_mul (x : Int) : wrap64 (wrap64 x * 256) = wrap64 (x * 256) := by unfold wrap64; omega
theorem or_i64 (A b : Nat) (hb : b < 256) : bits .or .i64 (wrap64 ((A : Int) * 256)) (b : Int) = wrap64 ((b + 256 * A : Nat) : Int) := by
  have h1 : (BitVec.ofInt 64 (wrap64 ((A : Int) * 256))).toNat = A % 72057594037927936 * 256 := by
    rw [BitVec.toNat_ofInt]
    unfold wrap64
    omega
  have h2 : (BitVec.ofInt 64 (b : Int)).toNat = b := by
    rw [BitVec.ofInt_natCast, BitVec.toNat_ofNat]; exact Nat.mod_eq_of_lt (by omega)
  show IntKind.i64.wrap ((BitVec.ofInt 64 (wrap64 ((A : Int) * 256)) ||| BitVec.ofInt 64 (b : Int)).toNat : Int) = _
  rw [BitVec.toNat_or, h1, h2]
  have h := Nat.two_pow_add_eq_or_of_lt (i := 8) (b := b) (by simpa using hb) (A % 72057594037927936)
  have h3 : 2 ^ 8 * (A % 72057594037927936) = A % 72057594037927936 * 256 := by omega
  rw [h3] at h
  rw [← h]
  simp only [IntKind.wrap, IntKind.signed, IntKind.bits, wrap64]
  simp
  omega

end Go.Proofs.Ytmgajgeoibbmjaa
