/- What ValueEqual asks, of values with nothing in them, and which is less: the plain laws. -/
import Derived.Test.YtnkaegdnjfpliaaGreatDoorVeqlaw
import Derived.Test.YtnkaegdnjfpliaaGreatDoorVpub
import Derived.Test.YtnkaegdnjfpliaaGreatDoorVsize
namespace Go.Proofs.YtnkaegdnjfpliaaGreatDoor
set_option linter.unusedSimpArgs false
set_option linter.unusedVariables false

theorem nullV_mk (k : Int) (b : Bool) (n : Int) (t : List UInt8) (ks : List (List UInt8)) (l : List V) : nullV (.mk k b n t ks l) = (l.any nullV || k == 0) := by rw [nullV, nullVs_eq]
theorem eqVs_one : ∀ l m : List V, (∀ a ∈ l, ∀ b ∈ m, eqV a b ≠ 1) → eqVs l m ≠ 1 := by
  intro l
  induction l with
  | nil => intro m _; rw [eqVs_nil]; omega
  | cons a x ih =>
    intro m h
    cases m with
    | nil => simp [eqVs]
    | cons b y =>
      have h1 := h a (by simp) b (by simp)
      have h2 := ih y fun c hc d hd => h c (by simp [hc]) d (by simp [hd])
      rw [eqVs_cons]
      split
      · omega
      · rw [if_neg (by omega)]; omega
theorem eqV_one : ∀ a b : V, nullV a = false → nullV b = false → eqV a b ≠ 1 := by
  refine V.ind fun k b n t ks l ih => ?_
  intro v ha hv
  rw [nullV_mk, Bool.or_eq_false_iff, List.any_eq_false] at ha
  cases v with
  | mk k' b' n' t' ks' l' =>
    rw [nullV_mk, Bool.or_eq_false_iff, List.any_eq_false] at hv
    have k1 : k ≠ 0 := by simpa using ha.2
    have k2 : k' ≠ 0 := by simpa using hv.2
    rw [eqV_mk2]
    rw [if_neg (by omega)]
    split
    · omega
    · split
      · split <;> omega
      · split
        · omega
        · exact eqVs_one l l' fun a hc b hd => ih a hc b (by simpa using ha.1 a hc) (by simpa using hv.1 b hd)
/-- What is answered of two values. -/
structure EqCase (a b : V) (t : Int) (s na nb : Bool) (x y : Int) : Prop where
  ht : eqV a b = t
  ht2 : eqV b a = t
  hs : decide (cmpV a b = 0) = s
  hna : nullV a = na
  hnb : nullV b = nb
  hx : lessV a b = x
  hy : lessV b a = y
theorem eqV_plain {a b : V} (hk : a.kind = b.kind) (h3 : a.kind = 1 ∨ a.kind = 2 ∨ a.kind = 3) : eqV a b = if cmpV a b = 0 then 2 else 0 := by
  cases a with
  | mk k b' n t ks l =>
    have hk' : k = b.kind := hk
    have h' : k = 1 ∨ k = 2 ∨ k = 3 := h3
    have e1 : ¬ (k = 0 ∨ b.kind = 0) := by omega
    have e2 : ¬ (k ≠ b.kind) := by omega
    have e3 : k ≠ 4 ∧ k ≠ 5 := by omega
    rw [eqV_mk, if_neg e1, if_neg e2, if_pos e3]
theorem nullV_plain {a : V} (h3 : a.kind = 1 ∨ a.kind = 2 ∨ a.kind = 3) (hl : a.list = []) : nullV a = false := by
  cases a with
  | mk k b' n t ks l =>
    have h' : k = 1 ∨ k = 2 ∨ k = 3 := h3
    have hl' : l = [] := hl
    subst hl'
    rw [nullV_mk, Bool.or_eq_false_iff]
    exact ⟨rfl, by rw [beq_eq_false_iff_ne]; omega⟩
/-- Of one kind whose values are less or greater. -/
theorem eq_plain {a b : V} (oa : okV a = true) (ob : okV b = true) (hk : a.kind = b.kind) (h3 : a.kind = 1 ∨ a.kind = 2 ∨ a.kind = 3) :
    EqCase a b 0 false false false 2 0 ∨ EqCase a b 2 true false false 0 0 ∨ EqCase a b 0 false false false 0 2 := by
  have ma := okV_may oa
  have mb := okV_may ob
  obtain ⟨h1, _⟩ := mayV_iff.1 ma
  obtain ⟨g1, _⟩ := mayV_iff.1 mb
  have F := oneV_iff.1 h1
  have G := oneV_iff.1 g1
  have la := F.list (by omega) (by omega)
  have lb := G.list (by omega) (by omega)
  have hb3 : b.kind = 1 ∨ b.kind = 2 ∨ b.kind = 3 := hk ▸ h3
  have na := nullV_plain h3 la
  have nb := nullV_plain hb3 lb
  have l1 : lessV a b = truthN (decide (cmpV a b < 0)) := by
    unfold lessV
    rw [oa, ob, hk, if_pos (by rcases h3 with h | h | h <;> rw [hk] at h <;> simp [h])]
  have l2 : lessV b a = truthN (decide (cmpV b a < 0)) := by
    unfold lessV
    rw [oa, ob, hk, if_pos (by rcases h3 with h | h | h <;> rw [hk] at h <;> simp [h])]
  have he := eqV_plain hk h3
  have hs := eqV_symm a b
  have hr := (ord_cmpV a).range b
  have hn := (ord_cmpV a).anti b
  rcases hr with h | h | h
  · exact .inl ⟨by rw [he, if_neg (by omega)], by rw [← hs, he, if_neg (by omega)], by rw [h]; rfl, na, nb, by rw [l1, h]; rfl, by rw [l2, hn, h]; rfl⟩
  · exact .inr (.inl ⟨by rw [he, if_pos h], by rw [← hs, he, if_pos h], by rw [h]; rfl, na, nb, by rw [l1, h]; rfl, by rw [l2, hn, h]; rfl⟩)
  · exact .inr (.inr ⟨by rw [he, if_neg (by omega)], by rw [← hs, he, if_neg (by omega)], by rw [h]; rfl, na, nb, by rw [l1, h]; rfl, by rw [l2, hn, h]; rfl⟩)
/-- Of others. -/
theorem eq_other {a b : V} (oa : okV a = true) (ob : okV b = true) (hk : ¬ (a.kind = b.kind ∧ (a.kind = 1 ∨ a.kind = 2 ∨ a.kind = 3))) :
    (∃ na nb, EqCase a b 0 false na nb 1 1) ∨ (∃ na nb, EqCase a b 2 true na nb 1 1) ∨ (∃ s nb, EqCase a b 1 s true nb 1 1) ∨ (∃ s, EqCase a b 1 s false true 1 1) := by
  have ma := okV_may oa
  have mb := okV_may ob
  have l1 : lessV a b = 1 := by
    unfold lessV
    rw [oa, ob, if_neg (by simp only [Bool.true_and, Bool.and_eq_true, Bool.or_eq_true, beq_iff_eq]; intro h; exact hk ⟨h.1, by omega⟩)]
  have l2 : lessV b a = 1 := by
    unfold lessV
    rw [oa, ob, if_neg (by simp only [Bool.true_and, Bool.and_eq_true, Bool.or_eq_true, beq_iff_eq]; intro h; exact hk ⟨h.1.symm, by omega⟩)]
  have hs := eqV_symm a b
  rcases eqV_range a b with h | h | h
  · have h0 := eqV_zero ma mb h
    exact .inl ⟨_, _, h, by rw [← hs, h], by simpa using h0, rfl, rfl, l1, l2⟩
  · have h1 := eqV_one a b
    cases ha : nullV a with
    | true => exact .inr (.inr (.inl ⟨_, _, h, by rw [← hs, h], rfl, ha, rfl, l1, l2⟩))
    | false =>
      cases hb : nullV b with
      | true => exact .inr (.inr (.inr ⟨_, h, by rw [← hs, h], rfl, ha, hb, l1, l2⟩))
      | false => exact absurd h (h1 ha hb)
  · have h2 := eqV_two a ma b mb h
    exact .inr (.inl ⟨_, _, h, by rw [← hs, h], by simpa using h2, rfl, rfl, l1, l2⟩)
end Go.Proofs.YtnkaegdnjfpliaaGreatDoor
