/- Values in memory. -/
import Derived.Test.YtnkaegdnjfpliaaGreatDoorBase
import Derived.Test.YtnkaegdnjfpliaaGreatDoorVal
namespace Go.Proofs.YtnkaegdnjfpliaaGreatDoor
set_option linter.unusedSimpArgs false
set_option linter.unusedVariables false
open Go.RowKit

/-- Strings lie at a slice. -/
def RdS (w : World) (p : Option Addr) (c : Nat) (l : List (List UInt8)) : Prop :=
  l.length ≤ c ∧ (l.length ≤ 140737488355328 ∧ c ≤ 9223372036854775807) ∧ (p = none → c = 0) ∧ (∀ s ∈ l, s.length ≤ 140737488355328) ∧ ∀ ad, p = some ad → (l ≠ [] → ad.spot = none) ∧ ∀ (i : Nat) (s : List UInt8), l[i]? = some s → w.cell? ⟨ad.block, ad.off + i, none⟩ = some (.string (strB s))
/-- Six cells. -/
def Six (w : World) (b o : Nat) (cs : Array Value) : Prop := ∃ c0 c1 c2 c3 c4 c5, cs = #[c0, c1, c2, c3, c4, c5] ∧ w.cell? ⟨b, o, none⟩ = some c0 ∧ w.cell? ⟨b, o + 1, none⟩ = some c1 ∧ w.cell? ⟨b, o + 2, none⟩ = some c2 ∧ w.cell? ⟨b, o + 3, none⟩ = some c3 ∧ w.cell? ⟨b, o + 4, none⟩ = some c4 ∧ w.cell? ⟨b, o + 5, none⟩ = some c5
mutual
/-- Six cells' values read as a value. -/
def VRd (w : World) : V → Array Value → Prop
  | .mk k b n t ks l, cs => ∃ pk ck pl cl, cs = #[.int .i64 k, .bool b, .int .i64 n, .string (strB t), .slice pk ks.length ck, .slice pl l.length cl] ∧ t.length ≤ 140737488355328 ∧ RdS w pk ck ks ∧
      (l.length ≤ cl ∧ (l.length ≤ 140737488355328 ∧ cl ≤ 9223372036854775807) ∧ (pl = none → cl = 0)) ∧ ∀ ad, pl = some ad → (l ≠ [] → ad.spot = none) ∧ VRds w ad 0 l
def VRds (w : World) (ad : Addr) : Nat → List V → Prop
  | _, [] => True
  | i, v :: r => (∃ cs, Six w ad.block (ad.off + i * 6) cs ∧ VRd w v cs) ∧ VRds w ad (i + 1) r
end
theorem VRds_iff {w : World} {ad : Addr} : ∀ {l : List V} {i : Nat}, VRds w ad i l ↔ ∀ (j : Nat) (v : V), l[j]? = some v → ∃ cs, Six w ad.block (ad.off + (i + j) * 6) cs ∧ VRd w v cs := by
  intro l
  induction l with
  | nil => intro i; simp [VRds]
  | cons a r ih =>
    intro i
    rw [VRds, ih]
    constructor
    · rintro ⟨h1, h2⟩ j v hv
      cases j with
      | zero => simp only [List.getElem?_cons_zero, Option.some.injEq] at hv; subst hv; exact h1
      | succ j => have := h2 j v (by simpa using hv); rwa [show i + 1 + j = i + (j + 1) by omega] at this
    · intro h
      exact ⟨h 0 a rfl, fun j v hv => by have := h (j + 1) v (by simpa using hv); rwa [show i + (j + 1) = i + 1 + j by omega] at this⟩
/-- Values lie at a slice. -/
def LRd (w : World) (p : Option Addr) (c : Nat) (l : List V) : Prop :=
  (l.length ≤ c ∧ (l.length ≤ 140737488355328 ∧ c ≤ 9223372036854775807) ∧ (p = none → c = 0)) ∧ ∀ ad, p = some ad → (l ≠ [] → ad.spot = none) ∧ ∀ (j : Nat) (v : V), l[j]? = some v → ∃ cs, Six w ad.block (ad.off + j * 6) cs ∧ VRd w v cs
theorem VRd_iff {w : World} {k : Int} {b : Bool} {n : Int} {t : List UInt8} {ks : List (List UInt8)} {l : List V} {cs : Array Value} : VRd w (.mk k b n t ks l) cs ↔ ∃ pk ck pl cl, cs = #[.int .i64 k, .bool b, .int .i64 n, .string (strB t), .slice pk ks.length ck, .slice pl l.length cl] ∧ t.length ≤ 140737488355328 ∧ RdS w pk ck ks ∧ LRd w pl cl l := by
  rw [VRd]
  simp only [VRds_iff, Nat.zero_add, LRd]
theorem VRd.open {w : World} {v : V} {cs : Array Value} (h : VRd w v cs) : ∃ pk ck pl cl, cs = #[.int .i64 v.kind, .bool v.b, .int .i64 v.n, .string (strB v.text), .slice pk v.keys.length ck, .slice pl v.list.length cl] ∧ v.text.length ≤ 140737488355328 ∧ RdS w pk ck v.keys ∧ LRd w pl cl v.list := by
  cases v; exact VRd_iff.1 h
theorem VRd.mk' {w : World} {v : V} {pk pl : Option Addr} {ck cl : Nat} (ht : v.text.length ≤ 140737488355328) (hk : RdS w pk ck v.keys) (hl : LRd w pl cl v.list) : VRd w v #[.int .i64 v.kind, .bool v.b, .int .i64 v.n, .string (strB v.text), .slice pk v.keys.length ck, .slice pl v.list.length cl] := by
  cases v; exact VRd_iff.2 ⟨_, _, _, _, rfl, ht, hk, hl⟩

section
variable {w w' : World}
theorem RdS.below {p : Option Addr} {c : Nat} {l : List (List UInt8)} (h : RdS w p c l) (g : Below w.heap.size w w') : RdS w' p c l := by
  obtain ⟨h1, h2, h3, h5, h4⟩ := h
  exact ⟨h1, h2, h3, h5, fun ad had => ⟨(h4 ad had).1, fun i s hs => belowCell g (ltOf ((h4 ad had).2 i s hs)) ((h4 ad had).2 i s hs)⟩⟩
theorem Six.below {b o : Nat} {cs : Array Value} (h : Six w b o cs) (g : Below w.heap.size w w') : Six w' b o cs := by
  obtain ⟨c0, c1, c2, c3, c4, c5, e, h0, h1, h2, h3, h4, h5⟩ := h
  exact ⟨c0, c1, c2, c3, c4, c5, e, belowCell g (ltOf h0) h0, belowCell g (ltOf h1) h1, belowCell g (ltOf h2) h2, belowCell g (ltOf h3) h3, belowCell g (ltOf h4) h4, belowCell g (ltOf h5) h5⟩
theorem VRd.below (g : Below w.heap.size w w') : ∀ {v : V} {cs : Array Value}, VRd w v cs → VRd w' v cs := by
  intro v
  refine V.ind (P := fun v => ∀ {cs : Array Value}, VRd w v cs → VRd w' v cs) (fun k b n t ks l ih cs h => ?_) v
  obtain ⟨pk, ck, pl, cl, e, ht, hk, h1, h2⟩ := VRd_iff.1 h
  refine VRd_iff.2 ⟨pk, ck, pl, cl, e, ht, hk.below g, h1, fun ad had => ⟨(h2 ad had).1, fun j v hv => ?_⟩⟩
  obtain ⟨cs, h6, hv'⟩ := (h2 ad had).2 j v hv
  exact ⟨cs, h6.below g, ih v (List.mem_of_getElem? hv) hv'⟩
theorem LRd.below {p : Option Addr} {c : Nat} {l : List V} (h : LRd w p c l) (g : Below w.heap.size w w') : LRd w' p c l := by
  obtain ⟨h1, h2⟩ := h
  refine ⟨h1, fun ad had => ⟨(h2 ad had).1, fun j v hv => ?_⟩⟩
  obtain ⟨cs, h6, hv'⟩ := (h2 ad had).2 j v hv
  exact ⟨cs, h6.below g, hv'.below g⟩
/-- A string of a row of strings. -/
theorem RdS.get {p : Option Addr} {c : Nat} {l : List (List UInt8)} (h : RdS w p c l) {i : Nat} (hi : i < l.length) : ∃ b o, p = some ⟨b, o, none⟩ ∧ w.cell? ⟨b, o + i, none⟩ = some (.string (strB l[i])) ∧ l[i].length ≤ 140737488355328 := by
  obtain ⟨h1, h2, h3, h5, h4⟩ := h
  cases p with
  | none => have := h3 rfl; omega
  | some ad =>
    obtain ⟨hs, hc⟩ := h4 ad rfl
    have hs := hs (fun e => by rw [e] at hi; simp at hi)
    obtain ⟨b, o, sp⟩ := ad
    simp only at hs; subst hs
    exact ⟨b, o, rfl, hc i _ (List.getElem?_eq_getElem hi), h5 _ (List.getElem_mem hi)⟩
/-- A value of a row of values. -/
theorem LRd.get {p : Option Addr} {c : Nat} {l : List V} (h : LRd w p c l) {i : Nat} (hi : i < l.length) : ∃ b o cs, p = some ⟨b, o, none⟩ ∧ Six w b (o + i * 6) cs ∧ VRd w l[i] cs := by
  obtain ⟨⟨h1, h2, h3⟩, h4⟩ := h
  cases p with
  | none => have := h3 rfl; omega
  | some ad =>
    obtain ⟨hs, hc⟩ := h4 ad rfl
    have hs := hs (fun e => by rw [e] at hi; simp at hi)
    obtain ⟨b, o, sp⟩ := ad
    simp only at hs; subst hs
    obtain ⟨cs, h6, hv⟩ := hc i _ (List.getElem?_eq_getElem hi)
    exact ⟨b, o, cs, rfl, h6, hv⟩
end
/-- A value of a row, laid open. -/
theorem LRd.at {w : World} {p : Option Addr} {c : Nat} {l : List V} (h : LRd w p c l) {i : Nat} (hi : i < l.length) : ∃ b o pk ck pl cl, p = some ⟨b, o, none⟩ ∧
    (w.cell? ⟨b, o + i * 6, none⟩ = some (.int .i64 l[i].kind) ∧ w.cell? ⟨b, o + i * 6 + 1, none⟩ = some (.bool l[i].b) ∧ w.cell? ⟨b, o + i * 6 + 2, none⟩ = some (.int .i64 l[i].n) ∧ w.cell? ⟨b, o + i * 6 + 3, none⟩ = some (.string (strB l[i].text)) ∧
      w.cell? ⟨b, o + i * 6 + 4, none⟩ = some (.slice pk l[i].keys.length ck) ∧ w.cell? ⟨b, o + i * 6 + 5, none⟩ = some (.slice pl l[i].list.length cl)) ∧
    VRd w l[i] #[.int .i64 l[i].kind, .bool l[i].b, .int .i64 l[i].n, .string (strB l[i].text), .slice pk l[i].keys.length ck, .slice pl l[i].list.length cl] := by
  obtain ⟨b, o, cs, hp, ⟨c0, c1, c2, c3, c4, c5, e, h0, h1, h2, h3, h4, h5⟩, hv⟩ := h.get hi
  obtain ⟨pk, ck, pl, cl, e2, ht, hk, hl⟩ := hv.open
  rw [e2] at e
  have hx := e.symm
  simp only [Array.mk.injEq, List.cons.injEq, and_true] at hx
  obtain ⟨rfl, rfl, rfl, rfl, rfl, rfl⟩ := hx
  exact ⟨b, o, pk, ck, pl, cl, hp, ⟨h0, h1, h2, h3, h4, h5⟩, VRd.mk' ht hk hl⟩
end Go.Proofs.YtnkaegdnjfpliaaGreatDoor
