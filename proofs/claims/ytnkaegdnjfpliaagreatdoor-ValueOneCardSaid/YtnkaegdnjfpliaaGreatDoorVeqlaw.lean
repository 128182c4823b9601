/- What ValueEqual asks: the plain laws. Nothing of the program is named here. -/
import Derived.Test.YtnkaegdnjfpliaaGreatDoorVeqp
namespace Go.Proofs.YtnkaegdnjfpliaaGreatDoor
set_option linter.unusedSimpArgs false
set_option linter.unusedVariables false

theorem eqV_mk2 (k : Int) (b : Bool) (n : Int) (t : List UInt8) (ks : List (List UInt8)) (l : List V) (k' : Int) (b' : Bool) (n' : Int) (t' : List UInt8) (ks' : List (List UInt8)) (l' : List V) : eqV (.mk k b n t ks l) (.mk k' b' n' t' ks' l') =
    if k = 0 ∨ k' = 0 then 1
    else if k ≠ k' then 0
    else if k ≠ 4 ∧ k ≠ 5 then (if cmpV (.mk k b n t ks l) (.mk k' b' n' t' ks' l') = 0 then 2 else 0)
    else if l.length ≠ l'.length ∨ ks ≠ ks' then 0
    else eqVs l l' := eqV_mk _ _ _ _ _ _ _
theorem eqVs_symm : ∀ (l m : List V), (∀ a ∈ l, ∀ b, eqV a b = eqV b a) → eqVs l m = eqVs m l := by
  intro l
  induction l with
  | nil => intro m _; cases m <;> simp [eqVs]
  | cons a x ih =>
    intro m h
    cases m with
    | nil => simp [eqVs]
    | cons b y => rw [eqVs_cons, eqVs_cons, h a (by simp) b, ih y fun c hc d => h c (by simp [hc]) d]
theorem eqV_symm : ∀ a b : V, eqV a b = eqV b a := by
  refine V.ind fun k b n t ks l ih => ?_
  intro v
  cases v with
  | mk k' b' n' t' ks' l' =>
    rw [eqV_mk2, eqV_mk2]
    have hl := eqVs_symm l l' ih
    have hc := (ord_cmpV (.mk k b n t ks l)).anti (.mk k' b' n' t' ks' l')
    by_cases h1 : k = 0 ∨ k' = 0
    · have h1' : k' = 0 ∨ k = 0 := h1.symm
      rw [if_pos h1, if_pos h1']
    · have h1' : ¬ (k' = 0 ∨ k = 0) := fun h => h1 h.symm
      rw [if_neg h1, if_neg h1']
      by_cases h2 : k = k'
      · subst h2
        have e : ¬ (k ≠ k) := by simp
        rw [if_neg e, if_neg e]
        by_cases h3 : k ≠ 4 ∧ k ≠ 5
        · rw [if_pos h3, if_pos h3]
          by_cases h4 : cmpV (.mk k b n t ks l) (.mk k b' n' t' ks' l') = 0
          · have h4' : cmpV (.mk k b' n' t' ks' l') (.mk k b n t ks l) = 0 := by omega
            rw [if_pos h4, if_pos h4']
          · have h4' : ¬ cmpV (.mk k b' n' t' ks' l') (.mk k b n t ks l) = 0 := by omega
            rw [if_neg h4, if_neg h4']
        · rw [if_neg h3, if_neg h3]
          by_cases h5 : l.length ≠ l'.length ∨ ks ≠ ks'
          · have h5' : l'.length ≠ l.length ∨ ks' ≠ ks := by rcases h5 with h | h; exact .inl (Ne.symm h); exact .inr (Ne.symm h)
            rw [if_pos h5, if_pos h5']
          · have h5' : ¬ (l'.length ≠ l.length ∨ ks' ≠ ks) := fun h => h5 (by rcases h with h | h; exact .inl (Ne.symm h); exact .inr (Ne.symm h))
            rw [if_neg h5, if_neg h5', hl]
      · have h2' : k' ≠ k := fun e => h2 e.symm
        rw [if_pos h2, if_pos h2']
theorem eqVs_self : ∀ l : List V, (∀ a ∈ l, eqV a a ≠ 0) → eqVs l l ≠ 0 := by
  intro l
  induction l with
  | nil => intro _; simp [eqVs]
  | cons a x ih =>
    intro h
    have h1 := h a (by simp)
    have h2 := ih fun c hc => h c (by simp [hc])
    rw [eqVs_cons, if_neg (by omega)]
    split <;> omega
theorem eqV_self : ∀ a : V, eqV a a ≠ 0 := by
  refine V.ind fun k b n t ks l ih => ?_
  rw [eqV_mk2]
  by_cases h1 : k = 0 ∨ k = 0
  · rw [if_pos h1]; omega
  · have e : ¬ (k ≠ k) := by simp
    rw [if_neg h1, if_neg e]
    by_cases h3 : k ≠ 4 ∧ k ≠ 5
    · have h4 := (ord_cmpV (.mk k b n t ks l)).self
      rw [if_pos h3, if_pos h4]; omega
    · have e5 : ¬ (l.length ≠ l.length ∨ ks ≠ ks) := by simp
      rw [if_neg h3, if_neg e5]
      exact eqVs_self l ih
theorem eqVs_two : ∀ l m : List V, (∀ a ∈ l, ∀ b ∈ m, eqV a b = 2 → cmpV a b = 0) → l.length = m.length → eqVs l m = 2 → cmpL cmpV l m = 0 := by
  intro l
  induction l with
  | nil => intro m _ hl _; cases m with
    | nil => rfl
    | cons => simp at hl
  | cons a x ih =>
    intro m h hl he
    cases m with
    | nil => simp at hl
    | cons b y =>
      rw [eqVs_cons] at he
      have r1 := eqV_range a b
      have r2 := eqVs_range x y
      have e1 : eqV a b = 2 ∧ eqVs x y = 2 := by
        split at he
        · omega
        · split at he
          · omega
          · omega
      have c1 := h a (by simp) b (by simp) e1.1
      unfold cmpL
      rw [if_neg (by omega)]
      exact ih y (fun c hc d hd => h c (by simp [hc]) d (by simp [hd])) (by simpa using hl) e1.2
theorem cmpV_mk (k : Int) (b : Bool) (n : Int) (t : List UInt8) (ks : List (List UInt8)) (l : List V) (v : V) : cmpV (.mk k b n t ks l) v = orI (cmpI (rankV k) (rankV v.kind)) (orI (cmpI (b2i b) (b2i v.b)) (orI (cmpB t v.text) (orI (cmpL cmpB ks v.keys) (orI (cmpL cmpV l v.list) (cmpI n v.n))))) := cmpV_eq _ _
theorem eqV_two {u : List UInt8 → Bool} : ∀ a : V, mayV u a = true → ∀ b : V, mayV u b = true → eqV a b = 2 → cmpV a b = 0 := by
  refine V.ind fun k b n t ks l ih => ?_
  intro ha v hv h
  obtain ⟨h1, h2⟩ := mayV_iff.1 ha
  obtain ⟨g1, g2⟩ := mayV_iff.1 hv
  have F := oneV_iff.1 h1
  have G := oneV_iff.1 g1
  rw [eqV_mk] at h
  split at h
  · omega
  · split at h
    · omega
    · rename_i hk0 hk
      have hk : k = v.kind := by omega
      split at h
      · split at h
        · assumption
        · omega
      · rename_i hs
        split at h
        · omega
        · rename_i hl
          have hlen : l.length = v.list.length := by
            by_cases e : l.length = v.list.length
            · exact e
            · exact absurd (Or.inl e) hl
          have hks : ks = v.keys := by
            by_cases e : ks = v.keys
            · exact e
            · exact absurd (Or.inr e) hl
          have hc := eqVs_two l v.list (fun a ha b hb => ih a ha (h2 a ha) b (g2 b hb)) hlen h
          have f1 := F.b
          have f2 := F.n
          have f3 := F.text
          have g1 := G.b
          have g2 := G.n
          have g3 := G.text
          simp only [V.kind, V.b, V.n, V.text] at f1 f2 f3
          rw [cmpV_mk]
          rw [f1 (by omega), g1 (by omega), f2 (by omega) (by omega) (by omega), g2 (by omega) (by omega) (by omega), f3 (by omega), g3 (by omega), ← hk, ← hks, hc]
          have e1 := cmpI_self (rankV k)
          have e2 := cmpI_self (b2i false)
          have e3 := cmpI_self 0
          have e4 : cmpB ([] : List UInt8) [] = 0 := rfl
          have e5 : cmpL cmpB ks ks = 0 := cmpL_self ks fun a _ => (ord_cmpB a).self
          rw [e1, e2, e3, e4, e5]
          rfl
theorem eqV_zero {u : List UInt8 → Bool} {a b : V} (ha : mayV u a = true) (hb : mayV u b = true) (h : eqV a b = 0) : cmpV a b ≠ 0 := by
  intro hc
  have := cmpV_zero a ha b hb hc
  subst this
  exact eqV_self a h
end Go.Proofs.YtnkaegdnjfpliaaGreatDoor
