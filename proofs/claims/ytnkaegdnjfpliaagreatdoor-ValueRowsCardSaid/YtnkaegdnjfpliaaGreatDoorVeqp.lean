/- Equal: its plain law. Nothing of the program is named here. -/
import Derived.Test.YtnkaegdnjfpliaaGreatDoorVal
namespace Go.Proofs.YtnkaegdnjfpliaaGreatDoor
set_option linter.unusedSimpArgs false
set_option linter.unusedVariables false

theorem eqVs_cons (a b : V) (x y : List V) : eqVs (a :: x) (b :: y) = if eqV a b = 0 ∨ eqVs x y = 0 then 0 else if eqV a b = 1 ∨ eqVs x y = 1 then 1 else 2 := by rw [eqVs]
theorem eqVs_nil (y : List V) : eqVs [] y = 2 := by cases y <;> simp [eqVs]
theorem eqVs_range : ∀ x y : List V, eqVs x y = 0 ∨ eqVs x y = 1 ∨ eqVs x y = 2 := by
  intro x
  induction x with
  | nil => intro y; rw [eqVs_nil]; simp
  | cons a x ih =>
    intro y
    cases y with
    | nil => simp [eqVs]
    | cons b y =>
      rw [eqVs_cons]
      split
      · exact .inl rfl
      · split
        · exact .inr (.inl rfl)
        · exact .inr (.inr rfl)
theorem eqV_mk (k : Int) (b : Bool) (n : Int) (t : List UInt8) (ks : List (List UInt8)) (l : List V) (v : V) : eqV (.mk k b n t ks l) v =
    if k = 0 ∨ v.kind = 0 then 1
    else if k ≠ v.kind then 0
    else if k ≠ 4 ∧ k ≠ 5 then (if cmpV (.mk k b n t ks l) v = 0 then 2 else 0)
    else if l.length ≠ v.list.length ∨ ks ≠ v.keys then 0
    else eqVs l v.list := by rw [eqV]
theorem eqV_range (a v : V) : eqV a v = 0 ∨ eqV a v = 1 ∨ eqV a v = 2 := by
  cases a with
  | mk k b n t ks l =>
    rw [eqV_mk]
    split
    · exact .inr (.inl rfl)
    · split
      · exact .inl rfl
      · split
        · split
          · exact .inr (.inr rfl)
          · exact .inl rfl
        · split
          · exact .inl rfl
          · exact eqVs_range _ _
/-- What has been met, and what is to come. -/
def combE (o r : Int) : Int := if r = 0 then 0 else if o = 1 then 1 else r
theorem combE_two (r : Int) (h : r = 0 ∨ r = 1 ∨ r = 2) : combE 2 r = r := by unfold combE; rcases h with rfl | rfl | rfl <;> rfl
theorem combE_end (o : Int) (h : o = 1 ∨ o = 2) (y : List V) : combE o (eqVs [] y) = o := by rw [eqVs_nil]; unfold combE; rcases h with rfl | rfl <;> rfl
theorem combE_zero (o : Int) (a b : V) (x y : List V) (h : eqV a b = 0) : combE o (eqVs (a :: x) (b :: y)) = 0 := by rw [eqVs_cons, if_pos (.inl h)]; rfl
theorem combE_one (o : Int) (a b : V) (x y : List V) (h : eqV a b = 1) : combE o (eqVs (a :: x) (b :: y)) = combE 1 (eqVs x y) := by
  rw [eqVs_cons, h]
  unfold combE
  rcases eqVs_range x y with e | e | e <;> rw [e] <;> simp
theorem combE_some (o : Int) (a b : V) (x y : List V) (h : eqV a b = 2) : combE o (eqVs (a :: x) (b :: y)) = combE o (eqVs x y) := by
  rw [eqVs_cons, h]
  unfold combE
  rcases eqVs_range x y with e | e | e <;> rw [e] <;> simp
end Go.Proofs.YtnkaegdnjfpliaaGreatDoor
