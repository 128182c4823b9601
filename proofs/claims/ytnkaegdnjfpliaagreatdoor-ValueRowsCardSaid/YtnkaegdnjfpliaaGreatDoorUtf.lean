/- The document's UTF-8 is the library's. Plain. -/
import Derived.Test.YtnkaegdnjfpliaaGreatDoorVal
import Derived.Lib.ValidU
import Derived.Lib.ValidLaws
namespace Go.Proofs.YtnkaegdnjfpliaaGreatDoor
set_option linter.unusedSimpArgs false
set_option linter.unusedVariables false
open Go

theorem byteN_lt (l : List UInt8) (i : Nat) : byteN l i < 256 := by
  unfold byteN
  split
  · rename_i x _; exact x.toNat_lt
  · omega
theorem get_byteN (l : List UInt8) (i : Nat) : ((⟨l.toArray⟩ : ByteArray).get! i).toNat = byteN l i := by
  unfold byteN
  show (l.toArray[i]!).toNat = _
  rw [getElem!_def]
  simp only [List.getElem?_toArray]
  cases l[i]? <;> rfl
theorem moreB_cont (l : List UInt8) (i : Nat) : (decide (i < l.length) && byteN l i / 64 == 2) = moreB l i := by
  unfold moreB byteN
  by_cases h : i < l.length
  · rw [List.getElem?_eq_getElem h]
    simp only [h, decide_true, Bool.true_and]
    rw [Bool.eq_iff_iff]
    simp only [beq_iff_eq, Bool.and_eq_true, decide_eq_true_eq]
    omega
  · rw [List.getElem?_eq_none (by omega)]
    simp [h]
theorem moreB_bounds {l : List UInt8} {i : Nat} (h : moreB l i = true) : 128 ≤ byteN l i ∧ byteN l i ≤ 191 := by
  rw [← moreB_cont] at h
  simp only [Bool.and_eq_true, beq_iff_eq] at h
  omega
/-- decode, by bytes and what follows them. -/
def decN (b0 b1 b2 b3 : Nat) (m1 m2 m3 : Bool) : Nat × Nat :=
  if b0 < 0x80 then (b0, 1)
  else if b0 / 32 == 6 && m1 then
    if (b0 % 32) * 64 + b1 % 64 ≥ 0x80 then ((b0 % 32) * 64 + b1 % 64, 2) else (Utf8.runeError, 1)
  else if b0 / 16 == 14 && m1 && m2 then
    if (b0 % 16) * 4096 + (b1 % 64) * 64 + b2 % 64 ≥ 0x800 && Utf8.valid ((b0 % 16) * 4096 + (b1 % 64) * 64 + b2 % 64 : Nat) then ((b0 % 16) * 4096 + (b1 % 64) * 64 + b2 % 64, 3) else (Utf8.runeError, 1)
  else if b0 / 8 == 30 && m1 && m2 && m3 then
    if (b0 % 8) * 262144 + (b1 % 64) * 4096 + (b2 % 64) * 64 + b3 % 64 ≥ 0x10000 && Utf8.valid ((b0 % 8) * 262144 + (b1 % 64) * 4096 + (b2 % 64) * 64 + b3 % 64 : Nat) then ((b0 % 8) * 262144 + (b1 % 64) * 4096 + (b2 % 64) * 64 + b3 % 64, 4) else (Utf8.runeError, 1)
  else (Utf8.runeError, 1)
theorem decodeL_eq (l : List UInt8) : Lib.decodeL l = decN (byteN l 0) (byteN l 1) (byteN l 2) (byteN l 3) (moreB l 1) (moreB l 2) (moreB l 3) := by
  have hs : (⟨l.toArray⟩ : ByteArray).size = l.length := by simp [ByteArray.size]
  unfold Lib.decodeL Utf8.decode decN
  simp only [Nat.zero_add, get_byteN, hs, moreB_cont]
theorem valid_iff (c : Nat) : Utf8.valid (c : Int) = true ↔ c < 0xD800 ∨ (0xE000 ≤ c ∧ c ≤ 0x10FFFF) := by
  unfold Utf8.valid
  simp only [Bool.or_eq_true, Bool.and_eq_true, decide_eq_true_eq]
  omega
theorem rune_step (l : List UInt8) : (((Lib.decodeL l).1 = 65533 ∧ (Lib.decodeL l).2 = 1) ↔ runeL l 0 = 0) ∧ (runeL l 0 ≠ 0 → (Lib.decodeL l).2 = runeL l 0) := by
  rw [decodeL_eq]
  unfold runeL
  have l0 := byteN_lt l 0
  have l1 := byteN_lt l 1
  have l2 := byteN_lt l 2
  have l3 := byteN_lt l 3
  simp only [Nat.zero_add]
  have c1 := @moreB_bounds l 1
  have c2 := @moreB_bounds l 2
  have c3 := @moreB_bounds l 3
  generalize byteN l 0 = b0 at *
  generalize byteN l 1 = b1 at *
  generalize byteN l 2 = b2 at *
  generalize byteN l 3 = b3 at *
  generalize moreB l 1 = m1 at *
  generalize moreB l 2 = m2 at *
  generalize moreB l 3 = m3 at *
  generalize hY : (if b0 < 128 then 1 else _) = Y
  generalize hX : decN b0 b1 b2 b3 m1 m2 m3 = X
  unfold decN Utf8.runeError at hX
  simp only [Bool.and_eq_true, Bool.or_eq_true, decide_eq_true_eq, beq_iff_eq, valid_iff, ge_iff_le] at hX hY
  cases m1 <;> cases m2 <;> cases m3
  all_goals
    simp only [Bool.false_eq_true, and_false, false_and, and_true, if_false] at hX hY
    try simp only [Bool.false_eq_true, false_implies, true_implies] at c1
    try simp only [Bool.false_eq_true, false_implies, true_implies] at c2
    try simp only [Bool.false_eq_true, false_implies, true_implies] at c3
    repeat' split at hX
    all_goals
      subst hX
      repeat' split at hY
      all_goals
        subst hY
        dsimp only
        omega
/-- Is a text UTF-8, from a place on? -/
def utfFrom (l : List UInt8) : Nat → Nat → Bool
  | 0, i => decide (l.length ≤ i)
  | f + 1, i => if l.length ≤ i then true else if runeL l i = 0 then false else utfFrom l f (i + runeL l i)
theorem byteN_drop (l : List UInt8) (i j : Nat) : byteN (l.drop i) j = byteN l (i + j) := by unfold byteN; rw [List.getElem?_drop]
theorem moreB_drop (l : List UInt8) (i j : Nat) : moreB (l.drop i) j = moreB l (i + j) := by unfold moreB; rw [List.getElem?_drop]
theorem runeL_drop (l : List UInt8) (i : Nat) : runeL (l.drop i) 0 = runeL l i := by
  unfold runeL
  simp only [byteN_drop, moreB_drop, Nat.zero_add, Nat.add_zero]
theorem utfFrom_valid (l : List UInt8) : ∀ (f i : Nat), l.length - i ≤ f → utfFrom l f i = Lib.validD (l.drop i) := by
  intro f
  induction f with
  | zero =>
    intro i h
    have : l.drop i = [] := List.drop_eq_nil_of_le (by omega)
    rw [this, Lib.validD_nil]
    simp [utfFrom]; omega
  | succ f ih =>
    intro i h
    unfold utfFrom
    by_cases hi : l.length ≤ i
    · rw [if_pos hi, List.drop_eq_nil_of_le hi, Lib.validD_nil]
    · rw [if_neg hi]
      have hne : l.drop i ≠ [] := by intro e; have := congrArg List.length e; simp at this; omega
      rw [Lib.validD_step _ hne]
      obtain ⟨h1, h2⟩ := rune_step (l.drop i)
      rw [runeL_drop] at h1 h2
      by_cases hr : runeL l i = 0
      · rw [if_pos hr, if_pos (h1.2 hr)]
      · rw [if_neg hr, if_neg (fun h => hr (h1.1 h)), ih _ (by omega), h2 hr, List.drop_drop]
/-- UTF-8, as the document says it. -/
def utfB (l : List UInt8) : Bool := utfFrom l l.length 0
theorem utfB_valid (l : List UInt8) : utfB l = Lib.validD l := by
  unfold utfB; rw [utfFrom_valid l _ _ (by omega), List.drop_zero]
end Go.Proofs.YtnkaegdnjfpliaaGreatDoor
