/- The texts of values; what the library's words are in ours. Plain. -/
import Derived.Test.YtnkaegdnjfpliaaGreatDoorVal
import Derived.Lib.Join
import Derived.Lib.ItoaNum
import Derived.Lib.Bytealg
import Derived.Lib.Small
import Derived.Lib.Replace
namespace Go.Proofs.YtnkaegdnjfpliaaGreatDoor
set_option linter.unusedSimpArgs false
set_option linter.unusedVariables false
open Go

theorem compareInt_eq (a b : Int) : Lib.compareInt a b = cmpI a b := by unfold Lib.compareInt cmpI; simp only [gt_iff_lt]
theorem compareBytes_eq : ∀ l m : List UInt8, Lib.compareBytes l m = cmpB l m := by
  intro l
  induction l with
  | nil => intro m; cases m <;> simp [Lib.compareBytes, cmpB, cmpL]
  | cons a x ih =>
    intro m
    cases m with
    | nil => simp [Lib.compareBytes, cmpB, cmpL]
    | cons b y =>
      have h := ih y
      unfold cmpB at h ⊢
      unfold Lib.compareBytes cmpL
      rw [h]
      rcases cmpI_cases (a.toNat : Int) (b.toNat : Int) with ⟨h1, e⟩ | ⟨h1, e⟩ | ⟨h1, e⟩
      · have g : a < b := UInt8.lt_iff_toNat_lt.2 (by omega)
        rw [if_pos g, e]; simp
      · have g : ¬ a < b := fun h => by have := UInt8.lt_iff_toNat_lt.1 h; omega
        have g2 : ¬ b < a := fun h => by have := UInt8.lt_iff_toNat_lt.1 h; omega
        rw [if_neg g, if_neg g2, e]; simp
      · have g : ¬ a < b := fun h => by have := UInt8.lt_iff_toNat_lt.1 h; omega
        have g2 : b < a := UInt8.lt_iff_toNat_lt.2 (by omega)
        rw [if_neg g, if_pos g2, e]; simp

/-- A digit of sixteen. -/
def hexB (n : Nat) : UInt8 := if n < 10 then UInt8.ofNat (48 + n) else UInt8.ofNat (87 + n)
/-- How a byte is told within quotes. -/
def escB (c : UInt8) : List UInt8 :=
  if c = 39 then [92, 39] else if c = 92 then [92, 92] else if c = 10 then [92, 110] else if c = 9 then [92, 116] else if c = 13 then [92, 114]
  else if c.toNat < 32 ∨ c.toNat = 127 then [92, 117, 48, 48, hexB (c.toNat / 16), hexB (c.toNat % 16)] else [c]
def quoteB (s : List UInt8) : List UInt8 := 39 :: (s.flatMap escB ++ [39])
def letterB (c : UInt8) : Bool := (decide (97 ≤ c.toNat) && decide (c.toNat ≤ 122)) || (decide (65 ≤ c.toNat) && decide (c.toNat ≤ 90)) || c == 95
def digitB (c : UInt8) : Bool := decide (48 ≤ c.toNat) && decide (c.toNat ≤ 57)
def plainB : List UInt8 → Bool
  | [] => false
  | c :: r => letterB c && r.all fun x => letterB x || digitB x
def tickB (c : UInt8) : List UInt8 := if c = 96 then [96, 96] else [c]
def nameB (s : List UInt8) : List UInt8 := if plainB s then s else 96 :: (s.flatMap tickB ++ [96])
mutual
/-- The text of a value. -/
def textV : V → List UInt8
  | .mk k b n t ks l =>
    if k = 1 then (if b then [116, 114, 117, 101] else [102, 97, 108, 115, 101])
    else if k = 2 then Lib.itoa n
    else if k = 3 then quoteB t
    else if k = 6 then [60, 110] ++ Lib.itoa n ++ [62]
    else if k = 7 then [60, 114] ++ Lib.itoa n ++ [62]
    else if k = 0 then [110, 117, 108, 108]
    else if k = 5 then 123 :: (Lib.join (entriesV ks l) [44, 32] ++ [125])
    else 91 :: (Lib.join (textsV l) [44, 32] ++ [93])
def textsV : List V → List (List UInt8)
  | [] => []
  | a :: x => textV a :: textsV x
def entriesV : List (List UInt8) → List V → List (List UInt8)
  | _, [] => []
  | ks, a :: x => (nameB (ks.headD []) ++ [58, 32] ++ textV a) :: entriesV ks.tail x
end
theorem textsV_eq (l : List V) : textsV l = l.map textV := by
  induction l with
  | nil => rfl
  | cons a x ih => simp [textsV, ih]
end Go.Proofs.YtnkaegdnjfpliaaGreatDoor
