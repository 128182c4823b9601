/- Rows of values that come in. -/
import Derived.Test.YtnkaegdnjfpliaaGreatDoorVread
namespace Go.Proofs.YtnkaegdnjfpliaaGreatDoor
set_option linter.unusedSimpArgs false
set_option linter.unusedVariables false
open Go.ChangeShapes Go.WideShapes Go.ChangeAt Go.RowKit Go.Joins

section
variable {H : Type} {enc : TypeId × Value → H} {w : World} {base : Nat} {held : Bool}
set_option maxRecDepth 100000 in
/-- Values that come in, in a row. -/
theorem vals_of {fuel : Nat} {v0 : Value} {x : DataW H × List MemPlace} (h : DataW.trod enc Tryz.prog w base (fun _ => true) held fuel 24 [v0] = some x) (hf : Fits 24 x.1) :
    ∃ p c l, v0 = .slice p (List.length l) c ∧ LRd w p c l ∧ rngVs l := by
  rcases DataW.trod_slice Tryz.underlying24 h with ⟨hv, _⟩ | ⟨a, len, cap, elems, rest, m, rfl, hv, e5, _, hle, hm, hel, helt, _, _⟩
  · cases hv
    exact ⟨none, 0, [], rfl, ⟨⟨Nat.le_refl _, by simp, fun _ => rfl⟩, fun ad h => by cases h⟩, by simp [rngVs]⟩
  · cases hv
    rw [e5] at hf
    obtain ⟨g1, g2⟩ := fits_slice Tryz.underlying24 hf
    rw [bytes26] at g1
    rw [cells26] at helt
    have hlenE : (elems.map (·.1)).length = len := by simpa using hel
    rw [hlenE] at g1
    obtain ⟨f, hfv⟩ := Go.Deep.choose_lt (n := len) (α := V) (p := fun i v => ∃ cs', w.cells? base (a.add (i * 6)) 6 = some cs' ∧ VRd w v cs'.toArray ∧ rngV v) (fun i hi => by
      have hi2 : i < elems.length := by omega
      have h1 := helt i hi
      rw [List.getElem?_eq_getElem hi2] at h1
      obtain ⟨cs', h2, h3⟩ := Option.bind_eq_some_iff.1 h1
      obtain ⟨v, hv1, hv2⟩ := value_of m cs' elems[i] h3 (g2 _ (List.mem_map.2 ⟨elems[i], List.getElem_mem hi2, rfl⟩))
      exact ⟨v, cs', h2, hv1, hv2⟩)
    have hspot : 0 < len → a.spot = none := fun h0 => by
      obtain ⟨cs', h1, _⟩ := hfv 0 h0
      obtain ⟨_, hcl, hc⟩ := World.cells?_some h1
      have h3 := hc 0 (by omega)
      rw [List.getElem?_eq_getElem (by omega)] at h3
      have := World.cell?_spot h3
      simpa [Addr.add] using this
    have hll : ((List.range len).map f).length = len := by simp
    refine ⟨some a, cap, (List.range len).map f, by rw [hll], ⟨⟨by rw [hll]; exact hle, by rw [hll]; exact ⟨by omega, hm⟩, fun e => by cases e⟩, fun ad had => ?_⟩, rngVs_iff.2 fun v hv => ?_⟩
    · cases had
      refine ⟨fun hne => hspot ?_, fun j v hv => ?_⟩
      · rcases Nat.eq_zero_or_pos len with h0 | h0
        · exact absurd (List.eq_nil_of_length_eq_zero (by rw [hll]; exact h0)) hne
        · exact h0
      · have hj : j < len := by
          have := (List.getElem?_eq_some_iff.1 hv).1
          rwa [hll] at this
        have e : v = f j := by
          have := (List.getElem?_eq_some_iff.1 hv).2
          simpa using this.symm
        subst e
        obtain ⟨cs', h1, h2, _⟩ := hfv j hj
        have hs0 := hspot (by omega)
        obtain ⟨ab, ao, asp⟩ := a
        simp only at hs0
        subst hs0
        obtain ⟨_, hcl, hc⟩ := World.cells?_some h1
        match cs', hcl with
        | [u0, u1, u2, u3, u4, u5], _ =>
          have q0 := hc 0 (by omega)
          have q1 := hc 1 (by omega)
          have q2 := hc 2 (by omega)
          have q3 := hc 3 (by omega)
          have q4 := hc 4 (by omega)
          have q5 := hc 5 (by omega)
          simp only [addr_add, Nat.add_zero] at q0 q1 q2 q3 q4 q5
          exact ⟨_, ⟨u0, u1, u2, u3, u4, u5, rfl, q0, q1, q2, q3, q4, q5⟩, h2⟩
    · obtain ⟨i, hi, rfl⟩ := List.mem_map.1 hv
      obtain ⟨_, _, _, h3⟩ := hfv i (List.mem_range.1 hi)
      exact h3
set_option maxRecDepth 100000 in
/-- Values that come in, at the top. -/
theorem vals_in {r : Reach} {b0 : Nat} {v : Value} {d : DataW H} {p : List MemPlace} (hv : Value.okWide Tryz.prog w r b0 24 v) (h : DataW.Trod enc Tryz.prog w base (fun _ => true) held 24 v d p) (hf : Fits 24 d) :
    ∃ p c l, v = .slice p (List.length l) c ∧ LRd w p c l ∧ rngVs l := by
  obtain ⟨a, len, cap, rfl⟩ := okWide_slice Tryz.underlying24 hv
  obtain ⟨fuel, h⟩ := h
  exact vals_of (by simpa [Value.cells] using h) hf
end
end Go.Proofs.YtnkaegdnjfpliaaGreatDoor
