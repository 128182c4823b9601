/- The document's coming, and what alike disks are. -/
import Derived.Test.YtmgajgeoibbmjaaSamef
namespace Go.Proofs.Ytmgajgeoibbmjaa
open Go.RowKit

/-! ### alike is symmetric, and so is what tells two disks apart -/
theorem covB_both {x y : Int → Option (List UInt8)} : (covB x y && covB y x) = true ↔ ∀ k, (x k).getD zblk = (y k).getD zblk ∨ (x k = none ∧ y k = none) := by
  rw [Bool.and_eq_true, covB_iff, covB_iff]
  constructor
  · rintro ⟨h1, h2⟩ k
    cases hx : x k with
    | some l => exact .inl (by rw [h1 k l hx]; rfl)
    | none =>
      cases hy : y k with
      | none => exact .inr ⟨rfl, rfl⟩
      | some l => exact .inl (by have := h2 k l hy; rw [hx] at this; exact this)
  · intro h
    refine ⟨fun k l hx => ?_, fun k l hy => ?_⟩
    · rcases h k with e | ⟨e, _⟩
      · rw [hx] at e; exact e.symm
      · rw [hx] at e; cases e
    · rcases h k with e | ⟨_, e⟩
      · rw [hy] at e; exact e
      · rw [hy] at e; cases e
theorem covB_both' {x y : Int → Option (List UInt8)} : (covB x y && covB y x) = true ↔ ∀ k, (x k).getD zblk = (y k).getD zblk := by
  rw [covB_both]
  constructor
  · intro h k
    rcases h k with e | ⟨e1, e2⟩
    · exact e
    · rw [e1, e2]
  · intro h k; exact .inl (h k)
theorem sameB_iff {d d' : DM} : sameB d d' = true ↔ (∀ k, (d.lasting k).getD zblk = (d'.lasting k).getD zblk) ∧ (∀ k, (d.seen k).getD zblk = (d'.seen k).getD zblk) ∧ d.size = d'.size ∧ d.steps = d'.steps ∧
    (∀ k, ((d.fails k).isSome = true ∧ (d.steps : Int) ≤ k) ↔ ((d'.fails k).isSome = true ∧ (d'.steps : Int) ≤ k)) ∧ d.since = d'.since := by
  have e : sameB d d' = ((covB d.lasting d'.lasting && covB d'.lasting d.lasting) && ((covB d.seen d'.seen && covB d'.seen d.seen) && (decide (d.size = d'.size) && (decide (d.steps = d'.steps) && (comB d d' && sinB d.since d'.since))))) := by
    unfold sameB; simp only [Bool.and_assoc]
  rw [e, Bool.and_eq_true, covB_both', Bool.and_eq_true, covB_both', Bool.and_eq_true, Bool.and_eq_true, Bool.and_eq_true, decide_eq_true_iff, decide_eq_true_iff, comB_iff, sinB_iff]
theorem sameB_symm (d d' : DM) : sameB d d' = sameB d' d := by
  rw [Bool.eq_iff_iff, sameB_iff, sameB_iff]
  constructor <;> rintro ⟨h1, h2, h3, h4, h5, h6⟩ <;> exact ⟨fun k => (h1 k).symm, fun k => (h2 k).symm, h3.symm, h4.symm, fun k => (h5 k).symm, h6.symm⟩
/-- Where keys lie on the disk, the blocks on it tell all. -/
theorem on_disk {d d' : DM} (h1 : d.Ok) (h2 : d'.Ok) (hs : d.size = d'.size) : (∀ k, (d.seen k).getD zblk = (d'.seen k).getD zblk) ↔ ∀ i : Nat, i < d.size → (d.seen (i : Int)).getD zblk = (d'.seen (i : Int)).getD zblk := by
  refine ⟨fun h i _ => h i, fun h k => ?_⟩
  by_cases hk : 0 ≤ k ∧ k < d.size
  · obtain ⟨i, rfl⟩ := Int.eq_ofNat_of_zero_le hk.1
    exact h i (by omega)
  · have e1 : d.seen k = none := by
      cases e : d.seen k with
      | none => rfl
      | some l => exact absurd (h1.seen k l e).2 (by omega)
    have e2 : d'.seen k = none := by
      cases e : d'.seen k with
      | none => rfl
      | some l => exact absurd (h2.seen k l e).2 (by omega)
    rw [e1, e2]
theorem on_disk_l {d d' : DM} (h1 : d.Ok) (h2 : d'.Ok) (hs : d.size = d'.size) : (∀ k, (d.lasting k).getD zblk = (d'.lasting k).getD zblk) ↔ ∀ i : Nat, i < d.size → (d.lasting (i : Int)).getD zblk = (d'.lasting (i : Int)).getD zblk := by
  refine ⟨fun h i _ => h i, fun h k => ?_⟩
  by_cases hk : 0 ≤ k ∧ k < d.size
  · obtain ⟨i, rfl⟩ := Int.eq_ofNat_of_zero_le hk.1
    exact h i (by omega)
  · have e1 : d.lasting k = none := by
      cases e : d.lasting k with
      | none => rfl
      | some l => exact absurd (h1.lasting k l e).2 (by omega)
    have e2 : d'.lasting k = none := by
      cases e : d'.lasting k with
      | none => rfl
      | some l => exact absurd (h2.lasting k l e).2 (by omega)
    rw [e1, e2]
theorem on_disk_s {d d' : DM} (h1 : d.Ok) (h2 : d'.Ok) (hs : d.size = d'.size) : d.since = d'.since ↔ ∀ i : Nat, i < d.size → (d.since (i : Int)).getD [] = (d'.since (i : Int)).getD [] := by
  refine ⟨fun h i _ => by rw [h], fun h => funext fun k => ?_⟩
  by_cases hk : 0 ≤ k ∧ k < d.size
  · obtain ⟨i, rfl⟩ := Int.eq_ofNat_of_zero_le hk.1
    have := h i (by omega)
    cases e1 : d.since (i : Int) with
    | none =>
      cases e2 : d'.since (i : Int) with
      | none => rfl
      | some l =>
        have hl := (h2.since _ l e2).2.2.1
        rw [e1, e2] at this
        simp only [Option.getD_none, Option.getD_some] at this
        rw [← this] at hl; simp at hl
    | some l =>
      cases e2 : d'.since (i : Int) with
      | none =>
        have hl := (h1.since _ l e1).2.2.1
        rw [e1, e2] at this
        simp only [Option.getD_none, Option.getD_some] at this
        rw [this] at hl; simp at hl
      | some l' => rw [e1, e2] at this; simp only [Option.getD_some] at this; rw [this]
  · have e1 : d.since k = none := by
      cases e : d.since k with
      | none => rfl
      | some l => have := h1.since k l e; omega
    have e2 : d'.since k = none := by
      cases e : d'.since k with
      | none => rfl
      | some l => have := h2.since k l e; omega
    rw [e1, e2]
end Go.Proofs.Ytmgajgeoibbmjaa
