/- Texts that the proofs of this layer share. -/
import Derived.Test.YtnkaegdnjfpliaaGreatDoorGC
import Derived.Test.YtnkaegdnjfpliaaGreatDoorGE
import Derived.Test.YtnkaegdnjfpliaaGreatDoorGB
import Derived.Test.YtnkaegdnjfpliaaGreatDoorGA
import Derived.Laws.StructEq
import Derived.Lib.Hide
import Derived.Test.YtnkaegdnjfpliaaGreatDoorGD
/-! Rows of values that come in. -/
namespace Go.Proofs.YtnkaegdnjfpliaaGreatDoor
set_option linter.unusedSimpArgs false
set_option linter.unusedVariables false
open Go.ChangeShapes Go.WideShapes Go.ChangeAt Go.RowKit Go.Joins

section
variable {H : Type} {enc : TypeId × Value → H} {w : World} {base : Nat} {held : Bool}
set_option maxRecDepth 100000 in
/-- Values that come in, in a row. -/
theorem vals_of {fuel : Nat} {v0 : Value} {x : DataW H × List MemPlace} (h : DataW.trod enc Tryz.prog w base (fun _ => true) held fuel 24 [v0] = some x) (hf : Fits 24 x.1) :
    ∃ p c l, v0 = .slice p (List.length l) c ∧ LRd w p c l ∧ rngVs l := by
  rcases DataW.trod_slice Tryz.underlying24 h with ⟨hv, _⟩ | ⟨a, len, cap, elems, rest, m, rfl, hv, e5, _, hle, hm, hel, helt, _, _⟩
  · cases hv
    exact ⟨none, 0, [], rfl, ⟨⟨Nat.le_refl _, by simp, fun _ => rfl⟩, fun ad h => by cases h⟩, by simp [rngVs]⟩
  · cases hv
    rw [e5] at hf
    obtain ⟨g1, g2⟩ := fits_slice Tryz.underlying24 hf
    rw [bytes26] at g1
    rw [cells26] at helt
    have hlenE : (elems.map (·.1)).length = len := by simpa using hel
    rw [hlenE] at g1
    obtain ⟨f, hfv⟩ := Go.Deep.choose_lt (n := len) (α := V) (p := fun i v => ∃ cs', w.cells? base (a.add (i * 6)) 6 = some cs' ∧ VRd w v cs'.toArray ∧ rngV v) (fun i hi => by
      have hi2 : i < elems.length := by omega
      have h1 := helt i hi
      rw [List.getElem?_eq_getElem hi2] at h1
      obtain ⟨cs', h2, h3⟩ := Option.bind_eq_some_iff.1 h1
      obtain ⟨v, hv1, hv2⟩ := value_of m cs' elems[i] h3 (g2 _ (List.mem_map.2 ⟨elems[i], List.getElem_mem hi2, rfl⟩))
      exact ⟨v, cs', h2, hv1, hv2⟩)
    have hspot : 0 < len → a.spot = none := fun h0 => by
      obtain ⟨cs', h1, _⟩ := hfv 0 h0
      obtain ⟨_, hcl, hc⟩ := World.cells?_some h1
      have h3 := hc 0 (by omega)
      rw [List.getElem?_eq_getElem (by omega)] at h3
      have := World.cell?_spot h3
      simpa [Addr.add] using this
    have hll : ((List.range len).map f).length = len := by simp
    refine ⟨some a, cap, (List.range len).map f, by rw [hll], ⟨⟨by rw [hll]; exact hle, by rw [hll]; exact ⟨by omega, hm⟩, fun e => by cases e⟩, fun ad had => ?_⟩, rngVs_iff.2 fun v hv => ?_⟩
    · cases had
      refine ⟨fun hne => hspot ?_, fun j v hv => ?_⟩
      · rcases Nat.eq_zero_or_pos len with h0 | h0
        · exact absurd (List.eq_nil_of_length_eq_zero (by rw [hll]; exact h0)) hne
        · exact h0
      · have hj : j < len := by
          have := (List.getElem?_eq_some_iff.1 hv).1
          rwa [hll] at this
        have e : v = f j := by
          have := (List.getElem?_eq_some_iff.1 hv).2
          simpa using this.symm
        subst e
        obtain ⟨cs', h1, h2, _⟩ := hfv j hj
        have hs0 := hspot (by omega)
        obtain ⟨ab, ao, asp⟩ := a
        simp only at hs0
        subst hs0
        obtain ⟨_, hcl, hc⟩ := World.cells?_some h1
        match cs', hcl with
        | [u0, u1, u2, u3, u4, u5], _ =>
          have q0 := hc 0 (by omega)
          have q1 := hc 1 (by omega)
          have q2 := hc 2 (by omega)
          have q3 := hc 3 (by omega)
          have q4 := hc 4 (by omega)
          have q5 := hc 5 (by omega)
          simp only [addr_add, Nat.add_zero] at q0 q1 q2 q3 q4 q5
          exact ⟨_, ⟨u0, u1, u2, u3, u4, u5, rfl, q0, q1, q2, q3, q4, q5⟩, h2⟩
    · obtain ⟨i, hi, rfl⟩ := List.mem_map.1 hv
      obtain ⟨_, _, _, h3⟩ := hfv i (List.mem_range.1 hi)
      exact h3
set_option maxRecDepth 100000 in
/-- Values that come in, at the top. -/
theorem vals_in {r : Reach} {b0 : Nat} {v : Value} {d : DataW H} {p : List MemPlace} (hv : Value.okWide Tryz.prog w r b0 24 v) (h : DataW.Trod enc Tryz.prog w base (fun _ => true) held 24 v d p) (hf : Fits 24 d) :
    ∃ p c l, v = .slice p (List.length l) c ∧ LRd w p c l ∧ rngVs l := by
  obtain ⟨a, len, cap, rfl⟩ := okWide_slice Tryz.underlying24 hv
  obtain ⟨fuel, h⟩ := h
  exact vals_of (by simpa [Value.cells] using h) hf
end
end Go.Proofs.YtnkaegdnjfpliaaGreatDoor

/-! Rows of values with the one to spare behind them. -/
namespace Go.Proofs.YtnkaegdnjfpliaaGreatDoor
set_option linter.unusedSimpArgs false
set_option linter.unusedVariables false
open Go.RowKit

/-- A row of values with the one to spare behind it. -/
def LSp (w : World) (P : Nat → Prop) (g c : Nat) (l : List V) : Prop := ∃ xs, OwnsP w P 26 6 (.slice (some ⟨g, 0, none⟩) (l.length + 1) c) (l.length + 1) (xs.flatMap Array.toList ++ sentX.toList) ∧ VSps w P l xs
theorem LSp.keep {w w' : World} {P : Nat → Prop} {g c : Nat} {l : List V} (h : LSp w P g c l) (hk : ∀ b, P b → b < w.heap.size → w'.heap[b]? = w.heap[b]?) : LSp w' P g c l := by
  obtain ⟨xs, h1, h2⟩ := h
  exact ⟨xs, h1.keep hk, h2.keep hk⟩
theorem LSp.below {w w' : World} {P : Nat → Prop} {g c : Nat} {l : List V} (h : LSp w P g c l) (b : Below w.heap.size w w') : LSp w' P g c l := h.keep fun k _ hk => b.block k hk
theorem LSp.imp {w : World} {P P' : Nat → Prop} {g c : Nat} {l : List V} (h : LSp w P g c l) (hp : ∀ b, b < w.heap.size → P b → P' b) : LSp w P' g c l := by
  obtain ⟨xs, h1, h2⟩ := h
  exact ⟨xs, h1.imp hp, h2.imp hp⟩
theorem LSp.facts {w : World} {P : Nat → Prop} {g c : Nat} {l : List V} (h : LSp w P g c l) :
    (l.length + 1 ≤ c ∧ c ≤ 9223372036854775807 ∧ w.cell? ⟨g, l.length * 6, none⟩ = some (.int .i64 77)) ∧ ∀ (j : Nat) (v : V), l[j]? = some v → ∃ x, Six w g (j * 6) x ∧ VSp w P v x := by
  obtain ⟨xs, h2, h3⟩ := h
  have h6 := h3.six
  have hc := h2.1.cells (g := g) rfl
  have hget := VSps_get h3
  have hfl := flatA_len h6
  rw [h3.len] at hfl
  refine ⟨⟨?_, ?_, ?_⟩, fun j v hv => ?_⟩
  · rcases h2.1.2 with ⟨e, _⟩ | ⟨g', cap', cur, e, _, hg, hnc, hcm, _⟩
    · cases e
    · cases e; exact hnc
  · rcases h2.1.2 with ⟨e, _⟩ | ⟨g', cap', cur, e, _, hg, hnc, hcm, _⟩
    · cases e
    · cases e; unfold maxLen at hcm; omega
  · have := hc (l.length * 6) (.int .i64 77) (by rw [List.getElem?_append_right (by rw [hfl]; omega), hfl]; simp [sentX])
    rw [addr_add] at this
    simpa using this
  · have hj := (List.getElem?_eq_some_iff.1 hv).1
    obtain ⟨x, hx, hown⟩ := hget j v hv
    refine ⟨x, ?_, hown⟩
    have hs := hown.size6
    have cell : ∀ i u, i < 6 → x[i]? = some u → w.cell? ⟨g, j * 6 + i, none⟩ = some u := by
      intro i u hi hu
      have := hc (j * 6 + i) u (by rw [List.getElem?_append_left (by rw [hfl]; omega), flat_six h6 j _ hx i hi]; exact hu)
      rw [addr_add, Nat.zero_add] at this
      exact this
    match hx2 : x, hs with
    | ⟨[u0, u1, u2, u3, u4, u5]⟩, _ => exact ⟨_, _, _, _, _, _, rfl, cell 0 _ (by omega) rfl, cell 1 _ (by omega) rfl, cell 2 _ (by omega) rfl, cell 3 _ (by omega) rfl, cell 4 _ (by omega) rfl, cell 5 _ (by omega) rfl⟩
theorem LSp.rd {w : World} {P : Nat → Prop} {g c : Nat} {l : List V} (h : LSp w P g c l) (ht : totVs l ≤ 1000000) : LRd w (some ⟨g, 0, none⟩) c l := by
  obtain ⟨⟨h1, h2, _⟩, h4⟩ := h.facts
  have hlen := totVs_length l
  refine ⟨⟨by omega, ⟨by omega, h2⟩, fun e => by cases e⟩, fun ad had => ?_⟩
  cases had
  refine ⟨fun _ => rfl, fun j v hv => ?_⟩
  obtain ⟨x, h6, hs⟩ := h4 j v hv
  exact ⟨x, by rw [Nat.zero_add]; exact h6, hs.open (by have := totVs_mem (List.mem_of_getElem? hv); omega)⟩
end Go.Proofs.YtnkaegdnjfpliaaGreatDoor

/-! The law's spoil: a value that was answered is written over. Its rows keep their shape, whatever lies where. -/
namespace Go.Proofs.YtnkaegdnjfpliaaGreatDoor
set_option linter.unusedSimpArgs false
set_option linter.unusedVariables false
open Go.RowKit

/-- What spoil may make of a cell: a number of a number, a text of a text. -/
def LikeV (a b : Option Value) : Prop := a = b ∨ (∃ s s', a = some (.string s) ∧ b = some (.string s')) ∨ (∃ n n', a = some (.int .i64 n) ∧ b = some (.int .i64 n'))
theorem LikeV.trans {a b c : Option Value} (h : LikeV a b) (g : LikeV b c) : LikeV a c := by
  rcases h with rfl | ⟨s, s', rfl, rfl⟩ | ⟨n, n', rfl, rfl⟩
  · exact g
  · rcases g with rfl | ⟨t, t', e, rfl⟩ | ⟨m, m', e, rfl⟩
    · exact .inr (.inl ⟨_, _, rfl, rfl⟩)
    · exact .inr (.inl ⟨_, _, rfl, rfl⟩)
    · cases e
  · rcases g with rfl | ⟨t, t', e, rfl⟩ | ⟨m, m', e, rfl⟩
    · exact .inr (.inr ⟨_, _, rfl, rfl⟩)
    · cases e
    · exact .inr (.inr ⟨_, _, rfl, rfl⟩)
theorem LikeV.str {a : Option Value} {s : ByteArray} (h : LikeV (some (.string s)) a) : ∃ s', a = some (.string s') := by
  rcases h with rfl | ⟨t, t', _, rfl⟩ | ⟨m, m', e, rfl⟩
  · exact ⟨_, rfl⟩
  · exact ⟨_, rfl⟩
  · cases e
theorem LikeV.num {a : Option Value} {n : Int} (h : LikeV (some (.int .i64 n)) a) : ∃ n', a = some (.int .i64 n') := by
  rcases h with rfl | ⟨t, t', e, rfl⟩ | ⟨m, m', _, rfl⟩
  · exact ⟨_, rfl⟩
  · cases e
  · exact ⟨_, rfl⟩
theorem LikeV.bool {a : Option Value} {b : Bool} (h : LikeV (some (.bool b)) a) : a = some (.bool b) := by
  rcases h with h | ⟨t, t', e, _⟩ | ⟨m, m', e, _⟩
  · exact h.symm
  · cases e
  · cases e
theorem LikeV.slice {a : Option Value} {p : Option Addr} {n c : Nat} (h : LikeV (some (.slice p n c)) a) : a = some (.slice p n c) := by
  rcases h with h | ⟨t, t', e, _⟩ | ⟨m, m', e, _⟩
  · exact h.symm
  · cases e
  · cases e
/-- Blocks of P may be spoilt, others stay. -/
structure Spoilt (P : Nat → Prop) (W W' : World) : Prop where
  touch : Touch P W W'
  like : ∀ b cs e, P b → W.heap[b]? = some (.cells cs e (0, 0)) → ∃ cs', W'.heap[b]? = some (.cells cs' e (0, 0)) ∧ ∀ i : Nat, LikeV cs[i]? cs'[i]?
theorem Spoilt.refl (P : Nat → Prop) (W : World) : Spoilt P W W := ⟨Touch.refl _ _, fun b cs e _ h => ⟨cs, h, fun _ => .inl rfl⟩⟩
theorem Spoilt.trans {P : Nat → Prop} {W W' W'' : World} (h : Spoilt P W W') (g : Spoilt P W' W'') : Spoilt P W W'' :=
  ⟨h.touch.trans g.touch, fun b cs e hp hb => by
    obtain ⟨cs', h1, h2⟩ := h.like b cs e hp hb
    obtain ⟨cs'', g1, g2⟩ := g.like b cs' e hp h1
    exact ⟨cs'', g1, fun i => (h2 i).trans (g2 i)⟩⟩
theorem Spoilt.of_below {P : Nat → Prop} {W W' : World} (h : Below W.heap.size W W') : Spoilt P W W' :=
  ⟨Touch.of_below h (fun b h1 h2 => absurd h1 (by omega)), fun b cs e _ hb => ⟨cs, belowBlk h (Array.getElem?_eq_some_iff.1 hb).1 hb, fun _ => .inl rfl⟩⟩
theorem Spoilt.set {P : Nat → Prop} {W : World} {g o : Nat} {cs : Array Value} {e : TypeId} {v : Value} (hP : P g) (hg : W.heap[g]? = some (.cells cs e (0, 0))) (hl : LikeV cs[o]? (some v)) : Spoilt P W (W.setCell ⟨g, o, none⟩ v) := by
  refine ⟨(Touch.refl _ _).setCell (.inl hP) _, fun b cs0 e0 hp hb => ?_⟩
  by_cases hbg : b = g
  · subst hbg
    rw [hg] at hb
    cases hb
    refine ⟨_, heap_setCell_same W b o cs e v hg, fun i => ?_⟩
    rw [Array.getElem?_setIfInBounds]
    by_cases hi : o = i
    · subst hi
      rw [if_pos rfl]
      by_cases hlt : o < cs.size
      · rw [if_pos hlt]; exact hl
      · rw [if_neg hlt]
        rw [Array.getElem?_eq_none (by omega)]; exact .inl rfl
    · rw [if_neg hi]; exact .inl rfl
  · exact ⟨cs0, (Below.heap_setCell W ⟨g, o, none⟩ v b hbg).trans hb, fun _ => .inl rfl⟩

/-- Keys' shape. -/
def KSh (w : World) (P : Nat → Prop) (vk : Value) (n : Nat) : Prop := (vk = .slice none 0 0 ∧ n = 0) ∨ ∃ g cap cs, vk = .slice (some ⟨g, 0, none⟩) n cap ∧ P g ∧ w.heap[g]? = some (.cells cs 9 (0, 0)) ∧ ∀ i, i < n → ∃ s, cs[i]? = some (.string s)
mutual
/-- A value's shape: its rows lie in blocks of P. -/
def VSh (w : World) (P : Nat → Prop) : V → Value → Value → Prop
  | .mk _ _ _ _ ks l, vk, vl => KSh w P vk ks.length ∧ ((vl = .slice none 0 0 ∧ l.length = 0) ∨ ∃ g cap cs, vl = .slice (some ⟨g, 0, none⟩) l.length cap ∧ P g ∧ w.heap[g]? = some (.cells cs 26 (0, 0)) ∧ VShs w P cs 0 l)
def VShs (w : World) (P : Nat → Prop) (cs : Array Value) : Nat → List V → Prop
  | _, [] => True
  | i, v :: r => (∃ k b n s vk vl, cs[i * 6]? = some (.int .i64 k) ∧ cs[i * 6 + 1]? = some (.bool b) ∧ cs[i * 6 + 2]? = some (.int .i64 n) ∧ cs[i * 6 + 3]? = some (.string s) ∧ cs[i * 6 + 4]? = some vk ∧ cs[i * 6 + 5]? = some vl ∧ VSh w P v vk vl) ∧ VShs w P cs (i + 1) r
end
theorem VSh_iff {w : World} {P : Nat → Prop} {k : Int} {b : Bool} {n : Int} {t : List UInt8} {ks : List (List UInt8)} {l : List V} {vk vl : Value} : VSh w P (.mk k b n t ks l) vk vl ↔
    KSh w P vk ks.length ∧ ((vl = .slice none 0 0 ∧ l.length = 0) ∨ ∃ g cap cs, vl = .slice (some ⟨g, 0, none⟩) l.length cap ∧ P g ∧ w.heap[g]? = some (.cells cs 26 (0, 0)) ∧ VShs w P cs 0 l) := by rw [VSh]
theorem VShs_iff {w : World} {P : Nat → Prop} {cs : Array Value} : ∀ {l : List V} {i : Nat}, VShs w P cs i l ↔ ∀ (j : Nat) (v : V), l[j]? = some v → ∃ k b n s vk vl, cs[(i + j) * 6]? = some (.int .i64 k) ∧ cs[(i + j) * 6 + 1]? = some (.bool b) ∧ cs[(i + j) * 6 + 2]? = some (.int .i64 n) ∧ cs[(i + j) * 6 + 3]? = some (.string s) ∧ cs[(i + j) * 6 + 4]? = some vk ∧ cs[(i + j) * 6 + 5]? = some vl ∧ VSh w P v vk vl := by
  intro l
  induction l with
  | nil => intro i; simp [VShs]
  | cons a r ih =>
    intro i
    rw [VShs, ih]
    constructor
    · rintro ⟨h1, h2⟩ j v hv
      cases j with
      | zero => simp only [List.getElem?_cons_zero, Option.some.injEq] at hv; subst hv; exact h1
      | succ j => have := h2 j v (by simpa using hv); rwa [show i + 1 + j = i + (j + 1) by omega] at this
    · intro h
      exact ⟨h 0 a rfl, fun j v hv => by have := h (j + 1) v (by simpa using hv); rwa [show i + (j + 1) = i + 1 + j by omega] at this⟩
theorem KSh.spoilt {w w' : World} {P : Nat → Prop} (g : Spoilt P w w') {vk : Value} {n : Nat} (h : KSh w P vk n) : KSh w' P vk n := by
  rcases h with h | ⟨b, cap, cs, h1, h2, h3, h4⟩
  · exact .inl h
  · obtain ⟨cs', g1, g2⟩ := g.like b cs _ h2 h3
    refine .inr ⟨b, cap, cs', h1, h2, g1, fun i hi => ?_⟩
    obtain ⟨s, hs⟩ := h4 i hi
    have := g2 i
    rw [hs] at this
    exact this.str
theorem KSh.slice {w : World} {P : Nat → Prop} {vk : Value} {n : Nat} (h : KSh w P vk n) : ∃ p c, vk = .slice p n c := by
  rcases h with ⟨rfl, rfl⟩ | ⟨b, cap, cs, rfl, _⟩
  · exact ⟨_, _, rfl⟩
  · exact ⟨_, _, rfl⟩
theorem VSh.slices {w : World} {P : Nat → Prop} {v : V} {vk vl : Value} (h : VSh w P v vk vl) : (∃ p c, vk = .slice p v.keys.length c) ∧ ∃ p c, vl = .slice p v.list.length c := by
  cases v with
  | mk k b n t ks l =>
    obtain ⟨h1, h2⟩ := VSh_iff.1 h
    refine ⟨h1.slice, ?_⟩
    rcases h2 with ⟨rfl, e⟩ | ⟨g, cap, cs, rfl, _⟩
    · exact ⟨none, 0, by show _ = Value.slice none l.length 0; rw [e]⟩
    · exact ⟨_, _, rfl⟩
theorem VSh.spoilt {w w' : World} {P : Nat → Prop} (g : Spoilt P w w') : ∀ {v : V} {vk vl : Value}, VSh w P v vk vl → VSh w' P v vk vl := by
  intro v
  refine V.ind (P := fun v => ∀ {vk vl : Value}, VSh w P v vk vl → VSh w' P v vk vl) (fun k b n t ks l ih vk vl h => ?_) v
  obtain ⟨h1, h2⟩ := VSh_iff.1 h
  refine VSh_iff.2 ⟨h1.spoilt g, ?_⟩
  rcases h2 with h2 | ⟨b, cap, cs, e, hp, hb, hs⟩
  · exact .inl h2
  · obtain ⟨cs', g1, g2⟩ := g.like b cs _ hp hb
    refine .inr ⟨b, cap, cs', e, hp, g1, VShs_iff.2 fun j v hv => ?_⟩
    obtain ⟨k, bb, n, s, vk1, vl1, q0, q1, q2, q3, q4, q5, hv1⟩ := VShs_iff.1 hs j v hv
    obtain ⟨⟨p4, c4, e4⟩, ⟨p5, c5, e5⟩⟩ := hv1.slices
    subst e4 e5
    have l0 := g2 ((0 + j) * 6); rw [q0] at l0
    have l1 := g2 ((0 + j) * 6 + 1); rw [q1] at l1
    have l2 := g2 ((0 + j) * 6 + 2); rw [q2] at l2
    have l3 := g2 ((0 + j) * 6 + 3); rw [q3] at l3
    have l4 := g2 ((0 + j) * 6 + 4); rw [q4] at l4
    have l5 := g2 ((0 + j) * 6 + 5); rw [q5] at l5
    obtain ⟨k', e0⟩ := l0.num
    obtain ⟨n', e2⟩ := l2.num
    obtain ⟨s', e3⟩ := l3.str
    exact ⟨k', bb, n', s', _, _, e0, l1.bool, e2, e3, l4.slice, l5.slice, ih v (List.mem_of_getElem? hv) hv1⟩
theorem VOwns_sixes {w : World} {P : Nat → Prop} : ∀ {l : List V} {xs : List (Array Value)}, VOwns w P l xs → ∀ x ∈ xs, x.size = 6 := by
  intro l
  induction l with
  | nil => intro xs h; rw [VOwns] at h; subst h; simp
  | cons a r ih =>
    intro xs h x hx
    obtain ⟨y, q, rfl, g1, g2⟩ := h
    rcases List.mem_cons.1 hx with rfl | hx
    · exact g1.size6
    · exact ih g2 x hx
/-- What was copied has a shape. -/
theorem VOwn.shape {w : World} {P : Nat → Prop} : ∀ {v : V} {x : Array Value}, VOwn w P v x → ∃ k b n s vk vl, x = #[.int .i64 k, .bool b, .int .i64 n, .string s, vk, vl] ∧ VSh w P v vk vl := by
  intro v
  refine V.ind (P := fun v => ∀ {x : Array Value}, VOwn w P v x → ∃ k b n s vk vl, x = #[.int .i64 k, .bool b, .int .i64 n, .string s, vk, vl] ∧ VSh w P v vk vl) (fun k b n t ks l ih x h => ?_) v
  obtain ⟨vk, vl, rfl, h1, xs, h2, h3⟩ := VOwn_iff.1 h
  refine ⟨k, b, n, strB t, vk, vl, rfl, VSh_iff.2 ⟨?_, ?_⟩⟩
  · have hc := fun (g : Nat) (e : vk.ownBlock = some g) => h1.1.cells (g := g) e
    rcases h1.1.2 with ⟨e1, e2⟩ | ⟨g, cap, cur, rfl, _, hg, _⟩
    · exact .inl ⟨e1, e2⟩
    · refine .inr ⟨g, cap, cur, rfl, h1.2 g rfl, hg, fun i hi => ?_⟩
      have := hc g rfl i (strV ks[i]) (by rw [List.getElem?_map, List.getElem?_eq_getElem hi]; rfl)
      rw [addr_add, Nat.zero_add, cell_of_row w g i cur _ _ hg] at this
      exact ⟨_, this⟩
  · have hc := fun (g : Nat) (e : vl.ownBlock = some g) => h2.1.cells (g := g) e
    have h6 := VOwns_sixes h3
    rcases h2.1.2 with ⟨e1, e2⟩ | ⟨g, cap, cur, rfl, _, hg, _⟩
    · exact .inl ⟨e1, e2⟩
    · refine .inr ⟨g, cap, cur, rfl, h2.2 g rfl, hg, VShs_iff.2 fun j v hv => ?_⟩
      obtain ⟨y, hy, hown⟩ := VOwns_get h3 j v hv
      obtain ⟨k', b', n', s', vk', vl', rfl, hsh⟩ := ih v (List.mem_of_getElem? hv) hown
      have cell : ∀ i u, i < 6 → (#[Value.int .i64 k', .bool b', .int .i64 n', .string s', vk', vl'] : Array Value)[i]? = some u → cur[(0 + j) * 6 + i]? = some u := by
        intro i u hi hu
        have := hc g rfl (j * 6 + i) u (by rw [flat_six h6 j _ hy i hi]; exact hu)
        rw [addr_add, Nat.zero_add, cell_of_row w g _ cur _ _ hg] at this
        rw [Nat.zero_add]; exact this
      exact ⟨k', b', n', s', vk', vl', cell 0 _ (by omega) rfl, cell 1 _ (by omega) rfl, cell 2 _ (by omega) rfl, cell 3 _ (by omega) rfl, cell 4 _ (by omega) rfl, cell 5 _ (by omega) rfl, hsh⟩
/-- What spoil keeps of its own. -/
structure SpI (P : Nat → Prop) (W0 : World) (X : Array Value) (W : World) : Prop where
  sp : Spoilt P W0 W
  box : W.heap[W0.heap.size]? = some (.cells X 26 (0, 0))
theorem SpI.next {P : Nat → Prop} {W0 W W' : World} {X : Array Value} (h : SpI P W0 X W) (hP : ∀ b, P b → b < W0.heap.size) (g : Spoilt P W W') : SpI P W0 X W' :=
  ⟨h.sp.trans g, g.touch.heap h.box (fun hp => by have := hP _ hp; omega)⟩
set_option maxRecDepth 100000 in
set_option maxHeartbeats 4000000 in
theorem spoil_len : ∀ (v : V), v.keys.length + totVs v.list ≤ 1000000 → ∀ (P : Nat → Prop) (W : World) (k : Int) (b : Bool) (n : Int) (s : ByteArray) (vk vl : Value), VSh W P v vk vl → (∀ q, P q → q < W.heap.size) →
    Calls Tryz.prog 40 #[.agg #[.int .i64 k, .bool b, .int .i64 n, .string s, vk, vl]] W fun e w' => e = .returned (.tuple #[]) ∧ Spoilt P W w' := by
  refine V.ind fun kv bv nv tv ks l ih => ?_
  intro htot P W k b n s vk vl hsh hP
  simp only [V.keys, V.list] at htot
  have hlen := totVs_length l
  obtain ⟨hk, hl⟩ := VSh_iff.1 hsh
  obtain ⟨⟨pk, ck, rfl⟩, ⟨pl, cl, rfl⟩⟩ := hsh.slices
  have z1 : (ks.length : Int) ≤ 1000000 := by omega
  have z2 : (l.length : Int) ≤ 1000000 := by omega
  have hI : SpI P W #[.int .i64 k, .bool b, .int .i64 n, .string s, .slice pk ks.length ck, .slice pl l.length cl] (W.alloc (.cells #[.int .i64 k, .bool b, .int .i64 n, .string s, .slice pk ks.length ck, .slice pl l.length cl] 26)) := ⟨Spoilt.of_below (below_new _), heap_alloc_new _ _⟩
  have HK := Lib.hid hk
  have HL := Lib.hid hl
  have HP := Lib.hid hP
  have HC := Lib.hid (fun (v : V) (hv : v ∈ l) => ih v hv (by have := totVs_mem hv; have := totV_eq v; omega))
  have HI := Lib.hid hI
  clear ih hsh hk hl hP hI htot hlen
  simp only [V.keys, V.list] at *
  go_enter Tryz.func40, Tryz.ntmps40
  go_wp2
  go_loopw [2] (fun i wr => ∃ j : Nat, j ≤ ks.length ∧ i = .int .i64 (j : Int) ∧ Hid (SpI P W #[.int .i64 k, .bool b, .int .i64 n, .string s, .slice pk ks.length ck, .slice pl l.length cl] wr)) (fun i _ => ks.length - (intOf i).toNat)
  case atStart => exact ⟨0, Nat.zero_le _, rfl, HI⟩
  case round =>
    clear HI
    obtain ⟨j, hj, rfl, HI⟩ := hrel
    have p4 := cellOf (o := 4) HI.out.box rfl; have p5 := cellOf (o := 5) HI.out.box rfl
    by_cases hlt : j < ks.length
    · have hlt1 : j + 1 ≤ ks.length := hlt
      rcases HK.out.spoilt HI.out.sp with ⟨_, e0⟩ | ⟨g, cap, cs, e, hPg, hg, hcell⟩
      · omega
      · cases e
        obtain ⟨s1, hs1⟩ := hcell j hlt
        have q0 := cellOf (o := j) hg hs1
        have f0 := freeOf (o := j) hg
        have HN := Lib.hid (HI.out.next HP.out (Spoilt.set (o := j) (v := .string ⟨#[63]⟩) hPg hg (by rw [hs1]; exact .inr (.inl ⟨_, _, rfl, rfl⟩))))
        clear hg hPg hs1 hcell HI
        go_wp2
        go_roundw
        case rel => exact ⟨j + 1, hlt1, by go_num, HN⟩
        case measure => simp [intOf]; omega
    · obtain rfl : j = ks.length := by omega
      have HI0 := HI
      go_wp2
      go_loopw [3] (fun i wr => ∃ j : Nat, j ≤ l.length ∧ i = .int .i64 (j : Int) ∧ Hid (SpI P W #[.int .i64 k, .bool b, .int .i64 n, .string s, .slice pk ks.length ck, .slice pl l.length cl] wr)) (fun i _ => l.length - (intOf i).toNat)
      case atStart => exact ⟨0, Nat.zero_le _, rfl, HI0⟩
      case round =>
        clear HI0 HI p4 p5
        obtain ⟨j, hj, rfl, HI⟩ := hrel
        have p4 := cellOf (o := 4) HI.out.box rfl; have p5 := cellOf (o := 5) HI.out.box rfl
        by_cases hlt : j < l.length
        · have hlt1 : j + 1 ≤ l.length := hlt
          rcases HL.out with ⟨_, e0⟩ | ⟨g, cap, cs0, e, hPg, hg0, hsh0⟩
          · omega
          · cases e
            obtain ⟨cs, hg, hlk⟩ := HI.out.sp.like g cs0 _ hPg hg0
            have hat : ∀ (W' : World), Spoilt P W W' → ∀ cs, W'.heap[g]? = some (.cells cs 26 (0, 0)) → ∃ k b n s vk vl, cs[j * 6]? = some (.int .i64 k) ∧ cs[j * 6 + 1]? = some (.bool b) ∧ cs[j * 6 + 2]? = some (.int .i64 n) ∧ cs[j * 6 + 3]? = some (.string s) ∧ cs[j * 6 + 4]? = some vk ∧ cs[j * 6 + 5]? = some vl ∧ VSh W' P l[j] vk vl := by
              intro W' hW cs hc
              obtain ⟨cs', h1, h2⟩ := hW.like g cs0 _ hPg hg0
              rw [hc] at h1; cases h1
              obtain ⟨k1, b1, n1, s1, vk1, vl1, q0, q1, q2, q3, q4, q5, hv1⟩ := VShs_iff.1 hsh0 j _ (List.getElem?_eq_getElem hlt)
              rw [Nat.zero_add] at q0 q1 q2 q3 q4 q5
              obtain ⟨⟨p4, c4, e4⟩, ⟨p5, c5, e5⟩⟩ := hv1.slices
              subst e4 e5
              have l0 := h2 (j * 6); rw [q0] at l0
              have l1 := h2 (j * 6 + 1); rw [q1] at l1
              have l2 := h2 (j * 6 + 2); rw [q2] at l2
              have l3 := h2 (j * 6 + 3); rw [q3] at l3
              have l4 := h2 (j * 6 + 4); rw [q4] at l4
              have l5 := h2 (j * 6 + 5); rw [q5] at l5
              obtain ⟨k', e0⟩ := l0.num
              obtain ⟨n', e2⟩ := l2.num
              obtain ⟨s', e3⟩ := l3.str
              exact ⟨k', _, n', s', _, _, e0, l1.bool, e2, e3, l4.slice, l5.slice, hv1.spoilt hW⟩
            obtain ⟨k1, b1, n1, s1, vk1, vl1, q0, q1, q2, q3, q4, q5, hv1⟩ := hat wr HI.out.sp cs hg
            have a0 := cellOf (o := j * 6) hg q0
            have a1 := cellOf (o := j * 6 + 1) hg q1
            have a2 := cellOf (o := j * 6 + 2) hg q2
            have a3 := cellOf (o := j * 6 + 3) hg q3
            have a4 := cellOf (o := j * 6 + 4) hg q4
            have a5 := cellOf (o := j * 6 + 5) hg q5
            have hcall := HC.out l[j] (List.getElem_mem hlt) P wr k1 b1 n1 s1 vk1 vl1 hv1 (fun q hq => Nat.lt_of_lt_of_le (HP.out q hq) HI.out.sp.touch.size)
            have HD := Lib.hid (And.intro hcall (And.intro hat (And.intro hPg hg0)))
            clear hcall hat hPg hg0 hsh0 hg hlk q0 q1 q2 q3 q4 q5 hv1
            go_wp2_with (first
              | (go_at_call 40
                 (
                  refine HD.out.1.mono ?_
                  rintro e w5 ⟨rfl, hsp⟩
                  have hI5 := HI.out.next HP.out hsp
                  obtain ⟨cs5, hg5, _⟩ := hI5.sp.like g cs0 _ HD.out.2.2.1 HD.out.2.2.2
                  obtain ⟨k5, b5, n5, s5, vk5, vl5, q0, _⟩ := HD.out.2.1 w5 hI5.sp cs5 hg5
                  have d5 := cellOf (o := 5) hI5.box rfl
                  have r0 := cellOf (o := j * 6) hg5 q0
                  have f0 := freeOf (o := j * 6) hg5
                  have HN := Lib.hid (hI5.next HP.out (Spoilt.set (o := j * 6) (v := .int .i64 77) HD.out.2.2.1 hg5 (by rw [q0]; exact .inr (.inr ⟨_, _, rfl, rfl⟩))))
                  clear hsp hI5 hg5 q0 HD HI)))
            go_roundw
            case rel => exact ⟨j + 1, hlt1, by go_num, HN⟩
            case measure => simp [intOf]; omega
        · obtain rfl : j = l.length := by omega
          go_wp2
          exact bodyPost_end (results_none rfl _ _ _) rfl ⟨rfl, HI.out.sp⟩
theorem spoil_any (v : V) (h : totV v ≤ 1000000) (P : Nat → Prop) (W : World) (k : Int) (b : Bool) (n : Int) (s : ByteArray) (vk vl : Value) (hs : VSh W P v vk vl) (hP : ∀ q, P q → q < W.heap.size) :
    Calls Tryz.prog 40 #[.agg #[.int .i64 k, .bool b, .int .i64 n, .string s, vk, vl]] W fun e w' => e = .returned (.tuple #[]) ∧ Spoilt P W w' :=
  spoil_len v (by have := totV_eq v; omega) P W k b n s vk vl hs hP
end Go.Proofs.YtnkaegdnjfpliaaGreatDoor

/-! The contracts under value.compare, where draws only rise. Printed by gen_drn.py. -/
namespace Go.Proofs.YtnkaegdnjfpliaaGreatDoor
set_option linter.unusedSimpArgs false
set_option linter.unusedVariables false
open Go.RowKit

/-- Below, and draws do not fall. -/
structure BelowD (B : Nat) (w w' : World) : Prop where
  b : Below B w w'
  drawn : w.drawn ≤ w'.drawn
instance {B : Nat} {w w' : World} : Coe (BelowD B w w') (Below B w w') := ⟨BelowD.b⟩
theorem BelowD.refl (B : Nat) (w : World) : BelowD B w w := ⟨Below.refl _ _, Nat.le_refl _⟩
theorem BelowD.trans {B : Nat} {a b c : World} (h : BelowD B a b) (k : BelowD B b c) : BelowD B a c := ⟨h.b.trans k.b, Nat.le_trans h.drawn k.drawn⟩
theorem BelowD.mono {B B' : Nat} {w w' : World} (h : BelowD B w w') (hB : B' ≤ B) : BelowD B' w w' := ⟨h.b.mono hB, h.drawn⟩
theorem BelowD.size {B : Nat} {w w' : World} (h : BelowD B w w') : w.heap.size ≤ w'.heap.size := h.b.size
theorem BelowD.drew {B : Nat} {a w : World} (h : BelowD B a w) : BelowD B a w.drew := ⟨h.b.drew, Nat.le_trans h.drawn (Nat.le_succ _)⟩
theorem BelowD.alloc {B : Nat} {a w : World} (h : BelowD B a w) (hB : B ≤ w.heap.size) (o : Obj) : BelowD B a (w.alloc o) := ⟨h.b.alloc hB o, h.drawn⟩
theorem belowD_new {w : World} (o : Obj) : BelowD w.heap.size w (w.alloc o) := ⟨below_new o, Nat.le_refl _⟩
theorem belowD_trans {w w1 w2 : World} (h : BelowD w.heap.size w w1) (g : BelowD w1.heap.size w1 w2) : BelowD w.heap.size w w2 := h.trans (g.mono h.size)
theorem belowD_putObj {B l : Nat} {w W : World} {o : Obj} (h : BelowD B w W) (hl : B ≤ l) : BelowD B w (W.putObj l o) := ⟨below_putObj h.b hl, h.drawn⟩
set_option maxRecDepth 100000 in
set_option maxHeartbeats 1000000 in
theorem truthsD_any (a b : Bool) (w : World) : Calls Tryz.prog 95 #[.bool a, .bool b] w fun e w' => e = .returned (.int .i64 (cmpI (b2i a) (b2i b))) ∧ BelowD w.heap.size w w' := by
  have hmm := @run_makeMap Tryz.prog
  have hin := insert_tt (w := w.alloc (.map #[] 0)) (b := w.heap.size) (heap_alloc_new _ _)
  have hb : BelowD w.heap.size w ((w.alloc (.map #[] 0)).putObj w.heap.size (.map #[{ key := .bool true, val := .int .i64 1, born := 0 }] 1)) := belowD_putObj (belowD_new _) (Nat.le_refl _)
  have hlk := fun a => lookup_tt (w := (w.alloc (.map #[] 0)).putObj w.heap.size (.map #[{ key := .bool true, val := .int .i64 1, born := 0 }] 1)) (b := w.heap.size) (clk := 1) (putObj_self (heap_alloc_new _ _)) a
  generalize (w.alloc (.map #[] 0)).putObj w.heap.size (.map #[{ key := .bool true, val := .int .i64 1, born := 0 }] 1) = w1 at *
  have HB := Lib.hid hb
  clear hb
  go_enter Tryz.func95, Tryz.ntmps95
  go_wp2_with (go_at_call 93; refine (cmp_any _ _ _).mono ?_; rintro e w' ⟨rfl, rfl⟩)
  go_ret
  exact ⟨rfl, HB.out⟩
set_option maxRecDepth 100000 in
set_option maxHeartbeats 2000000 in
theorem cmpvalsD_any {w : World} {p1 p2 : Option Addr} {c1 c2 : Nat} {l1 l2 : List V} (h1 : LRd w p1 c1 l1) (h2 : LRd w p2 c2 l2) (fn : FuncId) (hf : fn = 63) (f : V → V → Int)
    (hc : ∀ a ∈ l1, ∀ b ∈ l2, ∀ x y W, VRd W a x → VRd W b y → Calls Tryz.prog 63 #[.agg x, .agg y] W fun e w' => e = .returned (.int .i64 (f a b)) ∧ BelowD W.heap.size W w') :
    Calls Tryz.prog 115 #[.slice p1 l1.length c1, .slice p2 l2.length c2, .func (.func 63) #[] #[]] w fun e w' => e = .returned (.int .i64 (cmpL f l1 l2)) ∧ BelowD w.heap.size w w' := by
  have z1 : (l1.length : Int) ≤ 140737488355328 := by have := h1.1.1; have := h1.1.2.1; omega
  have z2 : (l2.length : Int) ≤ 140737488355328 := by have := h2.1.1; have := h2.1.2.1; omega
  have H := Lib.hid (And.intro h1 h2)
  have HC := Lib.hid hc
  clear h1 h2 hc hf
  go_enter Tryz.func115, Tryz.ntmps115
  go_wp2
  go_loopw [13] (fun i wr => ∃ k : Nat, k ≤ l1.length ∧ k ≤ l2.length ∧ i = .int .i64 (k : Int) ∧ Hid (cmpL f l1 l2 = cmpL f (l1.drop k) (l2.drop k) ∧ BelowD w.heap.size w wr)) (fun i _ => l1.length - (intOf i).toNat)
  case atStart => exact ⟨0, Nat.zero_le _, Nat.zero_le _, rfl, Lib.hid ⟨by simp, BelowD.refl _ _⟩⟩
  case round =>
    obtain ⟨k, hk, hk2, rfl, HK⟩ := hrel
    by_cases hlt : k < l1.length
    · have hlt1 : k + 1 ≤ l1.length := hlt
      obtain ⟨b1, o1, pk1, ck1, pl1, cl1, rfl, ⟨a0, a1, a2, a3, a4, a5⟩, hv1⟩ := (H.out.1.below HK.out.2.b).at hlt
      by_cases hlt2 : k < l2.length
      · have hlt3 : k + 1 ≤ l2.length := hlt2
        obtain ⟨b2, o2, pk2, ck2, pl2, cl2, rfl, ⟨q0, q1, q2, q3, q4, q5⟩, hv2⟩ := (H.out.2.below HK.out.2.b).at hlt2
        have hd := cmpL_drop f hlt hlt2
        have hcc := HC.out l1[k] (List.getElem_mem hlt) l2[k] (List.getElem_mem hlt2)
        generalize l1[k] = s1 at *
        generalize l2[k] = s2 at *
        have n0 := belowCell (below_new (w := wr) (.cells #[.int .i64 s1.kind, .bool s1.b, .int .i64 s1.n, .string (strB s1.text), .slice pk1 s1.keys.length ck1, .slice pl1 s1.list.length cl1] 26)) (ltOf q0) q0
        have n1 := belowCell (below_new (w := wr) (.cells #[.int .i64 s1.kind, .bool s1.b, .int .i64 s1.n, .string (strB s1.text), .slice pk1 s1.keys.length ck1, .slice pl1 s1.list.length cl1] 26)) (ltOf q1) q1
        have n2 := belowCell (below_new (w := wr) (.cells #[.int .i64 s1.kind, .bool s1.b, .int .i64 s1.n, .string (strB s1.text), .slice pk1 s1.keys.length ck1, .slice pl1 s1.list.length cl1] 26)) (ltOf q2) q2
        have n3 := belowCell (below_new (w := wr) (.cells #[.int .i64 s1.kind, .bool s1.b, .int .i64 s1.n, .string (strB s1.text), .slice pk1 s1.keys.length ck1, .slice pl1 s1.list.length cl1] 26)) (ltOf q3) q3
        have n4 := belowCell (below_new (w := wr) (.cells #[.int .i64 s1.kind, .bool s1.b, .int .i64 s1.n, .string (strB s1.text), .slice pk1 s1.keys.length ck1, .slice pl1 s1.list.length cl1] 26)) (ltOf q4) q4
        have n5 := belowCell (below_new (w := wr) (.cells #[.int .i64 s1.kind, .bool s1.b, .int .i64 s1.n, .string (strB s1.text), .slice pk1 s1.keys.length ck1, .slice pl1 s1.list.length cl1] 26)) (ltOf q5) q5
        have hbA : BelowD wr.heap.size wr ((wr.alloc (.cells #[.int .i64 s1.kind, .bool s1.b, .int .i64 s1.n, .string (strB s1.text), .slice pk1 s1.keys.length ck1, .slice pl1 s1.list.length cl1] 26)).alloc (.cells #[.int .i64 s2.kind, .bool s2.b, .int .i64 s2.n, .string (strB s2.text), .slice pk2 s2.keys.length ck2, .slice pl2 s2.list.length cl2] 26)) := (belowD_new _).alloc (by simp) _
        have HS := Lib.hid (hcc _ _ _ (hv1.below hbA.b) (hv2.below hbA.b))
        have HB := Lib.hid (And.intro HK.out.2 hbA)
        by_cases e : f s1 s2 = 0
        · have d : (f s1 s2 != 0) = false := by simp [e]
          have HE := Lib.hid (HK.out.1.trans (by rw [hd, if_neg (by simpa using e)]))
          clear e hd HK hv1 hv2 hcc hbA
          go_wp2_with (go_at_call 63; refine HS.out.mono ?_; rintro e w3 ⟨rfl, hb3⟩; have HB3 := Lib.hid hb3; clear hb3)
          go_roundw
          case rel => exact ⟨k + 1, by omega, by omega, by go_num, Lib.hid ⟨HE.out, HB.out.1.trans ((HB.out.2.trans (HB3.out.mono HB.out.2.size)).mono HB.out.1.size)⟩⟩
          case measure => simp [intOf]; omega
        · have d : (f s1 s2 != 0) = true := by simpa using e
          have HE := Lib.hid (HK.out.1.trans (by rw [hd, if_pos (by simpa using e)]))
          clear e hd HK hv1 hv2 hcc hbA
          go_wp2_with (go_at_call 63; refine HS.out.mono ?_; rintro e w3 ⟨rfl, hb3⟩; have HB3 := Lib.hid hb3; clear hb3)
          go_ret
          exact ⟨ret_int HE.out.symm, HB.out.1.trans ((HB.out.2.trans (HB3.out.mono HB.out.2.size)).mono HB.out.1.size)⟩
      · have HE := Lib.hid (HK.out.1.trans (cmpL_over f hlt (by omega)))
        generalize l1[k] = s1 at *
        have hbA : BelowD wr.heap.size wr (wr.alloc (.cells #[.int .i64 s1.kind, .bool s1.b, .int .i64 s1.n, .string (strB s1.text), .slice pk1 s1.keys.length ck1, .slice pl1 s1.list.length cl1] 26)) := belowD_new _
        have HB := Lib.hid (belowD_trans HK.out.2 hbA)
        clear HK hv1 hbA
        go_wp2
        go_ret
        exact ⟨ret_int HE.out.symm, HB.out⟩
    · by_cases hlt2 : k < l2.length
      · have HE := Lib.hid (HK.out.1.trans (cmpL_under f (by omega) hlt2))
        have HB := Lib.hid HK.out.2
        have hx : l1.length < l2.length := by omega
        clear HK
        go_wp2
        go_ret
        exact ⟨ret_int HE.out.symm, HB.out⟩
      · have HE := Lib.hid (HK.out.1.trans (cmpL_out f (by omega) (by omega)))
        have HB := Lib.hid HK.out.2
        have hx : ¬ l1.length < l2.length := by omega
        clear HK
        go_wp2
        go_ret
        exact ⟨ret_int HE.out.symm, HB.out⟩
theorem listsVD_any {w : World} {p1 p2 : Option Addr} {c1 c2 : Nat} {l1 l2 : List V} (h1 : LRd w p1 c1 l1) (h2 : LRd w p2 c2 l2) (f : V → V → Int)
    (hc : ∀ a ∈ l1, ∀ b ∈ l2, ∀ x y W, VRd W a x → VRd W b y → Calls Tryz.prog 63 #[.agg x, .agg y] W fun e w' => e = .returned (.int .i64 (f a b)) ∧ BelowD W.heap.size W w') :
    Calls Tryz.prog 87 #[.slice p1 l1.length c1, .slice p2 l2.length c2, .func (.func 63) #[] #[]] w fun e w' => e = .returned (.int .i64 (cmpL f l1 l2)) ∧ BelowD w.heap.size w w' := by
  have HC := Lib.hid (cmpvalsD_any h1 h2 _ rfl f hc)
  clear h1 h2 hc
  go_enter Tryz.func87, Tryz.ntmps87
  go_wp2_with (go_at_call 115; refine HC.out.mono ?_; rintro e w2 ⟨rfl, hb⟩; have HB := Lib.hid hb; clear hb)
  go_ret
  exact ⟨rfl, HB.out⟩
def TwoVD (w W : World) (x y : Array Value) : Prop := W.heap[w.heap.size]? = some (.cells x 26 (0, 0)) ∧ W.heap[w.heap.size + 1]? = some (.cells y 26 (0, 0)) ∧ BelowD w.heap.size w W
theorem TwoVD.below {w W W' : World} {x y : Array Value} (h : TwoVD w W x y) (g : BelowD W.heap.size W W') : TwoVD w W' x y :=
  ⟨belowBlk g (Array.getElem?_eq_some_iff.1 h.1).1 h.1, belowBlk g (Array.getElem?_eq_some_iff.1 h.2.1).1 h.2.1, belowD_trans h.2.2 g⟩
theorem TwoVD.start (w : World) (x y : Array Value) : TwoVD w ((w.alloc (.cells x 26)).alloc (.cells y 26)) x y := by
  refine ⟨?_, ?_, (belowD_new _).alloc (by simp) _⟩
  · simp only [heap_get_alloc, World.size_alloc]; rw [if_neg (by omega), if_pos trivial]
  · simp only [heap_get_alloc, World.size_alloc]; rw [if_pos trivial]
set_option maxRecDepth 100000 in
set_option maxHeartbeats 4000000 in
theorem compareD_any {u : List UInt8 → Bool} : ∀ a : V, mayV u a = true → ∀ b : V, mayV u b = true → ∀ {w : World} {x y : Array Value}, VRd w a x → VRd w b y →
    Calls Tryz.prog 63 #[.agg x, .agg y] w fun e w' => e = .returned (.int .i64 (cmpV a b)) ∧ BelowD w.heap.size w w' := by
  refine V.ind fun k b n t ks l ih => ?_
  intro ha v hb w x y hx hy
  obtain ⟨ha1, ha2⟩ := mayV_iff.1 ha
  obtain ⟨hb1, hb2⟩ := mayV_iff.1 hb
  have f1 := oneV_iff.1 ha1
  have f2 := oneV_iff.1 hb1
  obtain ⟨pk, ck, pl, cl, rfl, _, hk1, hl1⟩ := hx.open
  obtain ⟨pk', ck', pl', cl', rfl, _, hk2, hl2⟩ := hy.open
  have hrank := @cmpV_rank (.mk k b n t ks l) v
  have hbool := cmpV_bool f1 f2
  have htext := cmpV_text f1 f2
  have hrest := cmpV_rest f1 f2
  have hinj : rankV k = rankV v.kind → k = v.kind := rankV_inj f1.lo f1.hi f2.lo f2.hi
  cases v with
  | mk k' b' n' t' ks' l' =>
  simp only [V.kind, V.b, V.n, V.text, V.keys, V.list] at *
  have hihl : ∀ a ∈ l, ∀ b ∈ l', ∀ x y W, VRd W a x → VRd W b y → Calls Tryz.prog 63 #[.agg x, .agg y] W fun e w' => e = .returned (.int .i64 (cmpV a b)) ∧ BelowD W.heap.size W w' := fun a ha b hb x y W hx hy => ih a ha (ha2 a ha) b (hb2 b hb) hx hy
  generalize cmpV (.mk k b n t ks l) (.mk k' b' n' t' ks' l') = R at *
  have hT := TwoVD.start w #[.int .i64 k, .bool b, .int .i64 n, .string (strB t), .slice pk ks.length ck, .slice pl l.length cl] #[.int .i64 k', .bool b', .int .i64 n', .string (strB t'), .slice pk' ks'.length ck', .slice pl' l'.length cl']
  have H1 := Lib.hid (And.intro hk1 (And.intro hk2 (And.intro hl1 hl2)))
  have H2 := Lib.hid (And.intro hrank (And.intro hbool (And.intro htext (And.intro hrest hinj))))
  have HI := Lib.hid hihl
  have HT := Lib.hid hT
  clear ih ha hb ha1 ha2 hb1 hb2 f1 f2 hx hy hk1 hk2 hl1 hl2 hrank hbool htext hrest hinj hihl hT
  go_enter Tryz.func63, Tryz.ntmps63
  go_wp2
  have hT := HT.out
  generalize (w.alloc _).alloc _ = W0 at *
  have hT0 := hT.below (BelowD.refl _ _).drew
  refine plain_region_draws (fun W => TwoVD w W #[.int .i64 k, .bool b, .int .i64 n, .string (strB t), .slice pk ks.length ck, .slice pl l.length cl] #[.int .i64 k', .bool b', .int .i64 n', .string (strB t'), .slice pk' ks'.length ck', .slice pl' l'.length cl']) (by kernel_rfl) hT0 (fun hU0 => ?_)
  refine take 0 6 (v := .pointer (some ⟨w.heap.size, 0, none⟩)) rfl rfl (by kernel_rfl) (by kernel_rfl) (by kernel_rfl) rfl (fun W hW => exec_fieldAddr rfl rfl (fa_value _ _ (by decide) W)) (by assumption) ?_
  simp only [Act.put, List.setIfInBounds_toArray, List.set_cons_zero, List.set_cons_succ]
  refine take 1 7 (v := .int .i64 k) rfl rfl (by kernel_rfl) (by kernel_rfl) (by kernel_rfl) rfl (fun W hW => exec_load rfl rfl (run_load1 (w := W) Tryz.underlying22 rfl (cellOf hW.1 rfl))) (by assumption) ?_
  simp only [Act.put, List.setIfInBounds_toArray, List.set_cons_zero, List.set_cons_succ]
  refine take 3 9 (v := .pointer (some ⟨w.heap.size + 1, 0, none⟩)) rfl rfl (by kernel_rfl) (by kernel_rfl) (by kernel_rfl) rfl (fun W hW => exec_fieldAddr rfl rfl (fa_value _ _ (by decide) W)) (by assumption) ?_
  simp only [Act.put, List.setIfInBounds_toArray, List.set_cons_zero, List.set_cons_succ]
  refine take 4 10 (v := .int .i64 k') rfl rfl (by kernel_rfl) (by kernel_rfl) (by kernel_rfl) rfl (fun W hW => exec_load rfl rfl (run_load1 (w := W) Tryz.underlying22 rfl (cellOf hW.2.1 rfl))) (by assumption) ?_
  simp only [Act.put, List.setIfInBounds_toArray, List.set_cons_zero, List.set_cons_succ]
  refine onlyCall 2 8 rfl rfl (by kernel_rfl) rfl (exec_call [.int .i64 k] rfl rfl Tryz.func94 (by kernel_rfl) (by kernel_rfl)) ?_
  refine (rank_any _ _).mono ?_
  rintro e w' ⟨rfl, rfl⟩
  refine ⟨_, rfl, .inr hU0, ?_⟩
  simp only [Act.put, List.setIfInBounds_toArray, List.set_cons_zero, List.set_cons_succ]
  refine onlyCall 5 11 rfl rfl (by kernel_rfl) rfl (exec_call [.int .i64 k'] rfl rfl Tryz.func94 (by kernel_rfl) (by kernel_rfl)) ?_
  refine (rank_any _ _).mono ?_
  rintro e w' ⟨rfl, rfl⟩
  refine ⟨_, rfl, .inr hU0, ?_⟩
  simp only [Act.put, List.setIfInBounds_toArray, List.set_cons_zero, List.set_cons_succ]
  refine onlyCall 6 12 rfl rfl (by kernel_rfl) rfl (exec_call [.int .i64 (rankV k), .int .i64 (rankV k')] rfl rfl Tryz.func93 (by kernel_rfl) (by kernel_rfl)) ?_
  refine (cmp_any _ _ _).mono ?_
  rintro e w' ⟨rfl, rfl⟩
  refine ⟨_, rfl, .inr hU0, ?_⟩
  simp only [Act.put, List.setIfInBounds_toArray, List.set_cons_zero, List.set_cons_succ]
  refine take 7 5 (v := .int .i64 (cmpI (rankV k) (rankV k'))) rfl rfl (by kernel_rfl) (by kernel_rfl) (by kernel_rfl) rfl (fun W hW => exec_assign rfl rfl) (by assumption) ?_
  simp only [Act.put, List.setIfInBounds_toArray, List.set_cons_zero, List.set_cons_succ]
  refine done (by kernel_rfl) ?_ _
  clear hU0 hT0
  have c0 := cellOf (o := 0) hT.1 rfl
  have c1 := cellOf (o := 1) hT.1 rfl
  have c3 := cellOf (o := 3) hT.1 rfl
  have q1 := cellOf (o := 1) hT.2.1 rfl
  have q3 := cellOf (o := 3) hT.2.1 rfl
  by_cases hr : cmpI (rankV k) (rankV k') = 0
  · have d : (cmpI (rankV k) (rankV k') != 0) = false := by simp [hr]
    obtain rfl : k = k' := H2.out.2.2.2.2 (cmpI_zero hr)
    have HT := Lib.hid hT
    clear hT hr
    by_cases e1 : k = 1
    · subst e1
      have HR := Lib.hid (H2.out.2.1 rfl rfl)
      go_wp2_with (go_at_call 95; refine (truthsD_any _ _ _).mono ?_; rintro e w3 ⟨rfl, hb3⟩; have HB := Lib.hid hb3; clear hb3)
      go_ret
      exact ⟨ret_int HR.out.symm, belowD_trans (belowD_trans HT.out.2.2 (BelowD.refl _ _).drew) HB.out⟩
    · by_cases e3 : k = 3
      · subst e3
        have HR := Lib.hid (H2.out.2.2.1 rfl rfl)
        go_wp2_with (go_at_call 82; refine (strcmp_any _ _ _).mono ?_; rintro e w3 ⟨rfl, rfl⟩)
        go_ret
        exact ⟨ret_int HR.out.symm, belowD_trans HT.out.2.2 (BelowD.refl _ _).drew⟩
      · have d1 : (k == 1) = false := by simpa using e1
        have d3 : (k == 3) = false := by simpa using e3
        have HR := Lib.hid (H2.out.2.2.2.1 rfl e1 e3)
        clear e1 e3
        go_wp2
        have hT1 := HT.out.below (BelowD.refl _ _).drew
        have hT2 := hT1.below (BelowD.refl _ _).drew
        refine plain_region_draws (fun W => TwoVD w W #[.int .i64 k, .bool b, .int .i64 n, .string (strB t), .slice pk ks.length ck, .slice pl l.length cl] #[.int .i64 k, .bool b', .int .i64 n', .string (strB t'), .slice pk' ks'.length ck', .slice pl' l'.length cl']) (by kernel_rfl) hT2 (fun hU0 => ?_)
        refine take 0 32 (v := .pointer (some ⟨w.heap.size, 4, none⟩)) rfl rfl (by kernel_rfl) (by kernel_rfl) (by kernel_rfl) rfl (fun W hW => exec_fieldAddr rfl rfl (fa_value _ _ (by decide) W)) (by assumption) ?_
        simp only [Act.put, List.setIfInBounds_toArray, List.set_cons_zero, List.set_cons_succ]
        refine take 1 33 (v := .slice pk ks.length ck) rfl rfl (by kernel_rfl) (by kernel_rfl) (by kernel_rfl) rfl (fun W hW => exec_load rfl rfl (run_load1 (w := W) Tryz.underlying23 rfl (cellOf hW.1 rfl))) (by assumption) ?_
        simp only [Act.put, List.setIfInBounds_toArray, List.set_cons_zero, List.set_cons_succ]
        refine take 2 34 (v := .pointer (some ⟨w.heap.size + 1, 4, none⟩)) rfl rfl (by kernel_rfl) (by kernel_rfl) (by kernel_rfl) rfl (fun W hW => exec_fieldAddr rfl rfl (fa_value _ _ (by decide) W)) (by assumption) ?_
        simp only [Act.put, List.setIfInBounds_toArray, List.set_cons_zero, List.set_cons_succ]
        refine take 3 35 (v := .slice pk' ks'.length ck') rfl rfl (by kernel_rfl) (by kernel_rfl) (by kernel_rfl) rfl (fun W hW => exec_load rfl rfl (run_load1 (w := W) Tryz.underlying23 rfl (cellOf hW.2.1 rfl))) (by assumption) ?_
        simp only [Act.put, List.setIfInBounds_toArray, List.set_cons_zero, List.set_cons_succ]
        refine take 5 37 (v := .pointer (some ⟨w.heap.size, 5, none⟩)) rfl rfl (by kernel_rfl) (by kernel_rfl) (by kernel_rfl) rfl (fun W hW => exec_fieldAddr rfl rfl (fa_value _ _ (by decide) W)) (by assumption) ?_
        simp only [Act.put, List.setIfInBounds_toArray, List.set_cons_zero, List.set_cons_succ]
        refine take 6 38 (v := .slice pl l.length cl) rfl rfl (by kernel_rfl) (by kernel_rfl) (by kernel_rfl) rfl (fun W hW => exec_load rfl rfl (run_load1 (w := W) Tryz.underlying24 rfl (cellOf hW.1 rfl))) (by assumption) ?_
        simp only [Act.put, List.setIfInBounds_toArray, List.set_cons_zero, List.set_cons_succ]
        refine take 7 39 (v := .pointer (some ⟨w.heap.size + 1, 5, none⟩)) rfl rfl (by kernel_rfl) (by kernel_rfl) (by kernel_rfl) rfl (fun W hW => exec_fieldAddr rfl rfl (fa_value _ _ (by decide) W)) (by assumption) ?_
        simp only [Act.put, List.setIfInBounds_toArray, List.set_cons_zero, List.set_cons_succ]
        refine take 8 40 (v := .slice pl' l'.length cl') rfl rfl (by kernel_rfl) (by kernel_rfl) (by kernel_rfl) rfl (fun W hW => exec_load rfl rfl (run_load1 (w := W) Tryz.underlying24 rfl (cellOf hW.2.1 rfl))) (by assumption) ?_
        simp only [Act.put, List.setIfInBounds_toArray, List.set_cons_zero, List.set_cons_succ]
        refine take 10 42 (v := .pointer (some ⟨w.heap.size, 2, none⟩)) rfl rfl (by kernel_rfl) (by kernel_rfl) (by kernel_rfl) rfl (fun W hW => exec_fieldAddr rfl rfl (fa_value _ _ (by decide) W)) (by assumption) ?_
        simp only [Act.put, List.setIfInBounds_toArray, List.set_cons_zero, List.set_cons_succ]
        refine take 11 43 (v := .int .i64 n) rfl rfl (by kernel_rfl) (by kernel_rfl) (by kernel_rfl) rfl (fun W hW => exec_load rfl rfl (run_load1 (w := W) Tryz.underlying2 rfl (cellOf hW.1 rfl))) (by assumption) ?_
        simp only [Act.put, List.setIfInBounds_toArray, List.set_cons_zero, List.set_cons_succ]
        refine take 12 44 (v := .pointer (some ⟨w.heap.size + 1, 2, none⟩)) rfl rfl (by kernel_rfl) (by kernel_rfl) (by kernel_rfl) rfl (fun W hW => exec_fieldAddr rfl rfl (fa_value _ _ (by decide) W)) (by assumption) ?_
        simp only [Act.put, List.setIfInBounds_toArray, List.set_cons_zero, List.set_cons_succ]
        refine take 13 45 (v := .int .i64 n') rfl rfl (by kernel_rfl) (by kernel_rfl) (by kernel_rfl) rfl (fun W hW => exec_load rfl rfl (run_load1 (w := W) Tryz.underlying2 rfl (cellOf hW.2.1 rfl))) (by assumption) ?_
        simp only [Act.put, List.setIfInBounds_toArray, List.set_cons_zero, List.set_cons_succ]
        refine onlyCall 4 36 rfl rfl (by kernel_rfl) rfl (exec_call [.slice pk ks.length ck, .slice pk' ks'.length ck', .func (.func 82) #[] #[]] rfl rfl Tryz.func97 (by kernel_rfl) (by kernel_rfl)) ?_
        refine (listsS_any ((H1.out.1.below HT.out.2.2).below (Below.refl _ _).drew |>.below (Below.refl _ _).drew) ((H1.out.2.1.below HT.out.2.2).below (Below.refl _ _).drew |>.below (Below.refl _ _).drew)).mono ?_
        rintro e w' ⟨rfl, rfl⟩
        refine ⟨_, rfl, .inr hU0, ?_⟩
        simp only [Act.put, List.setIfInBounds_toArray, List.set_cons_zero, List.set_cons_succ]
        refine onlyCall 9 41 rfl rfl (by kernel_rfl) rfl (exec_call [.slice pl l.length cl, .slice pl' l'.length cl', .func (.func 63) #[] #[]] rfl rfl Tryz.func87 (by kernel_rfl) (by kernel_rfl)) ?_
        refine (listsVD_any ((H1.out.2.2.1.below HT.out.2.2).below (Below.refl _ _).drew |>.below (Below.refl _ _).drew) ((H1.out.2.2.2.below HT.out.2.2).below (Below.refl _ _).drew |>.below (Below.refl _ _).drew) cmpV HI.out).mono ?_
        rintro e w4 ⟨rfl, hb4⟩
        have hU1 := hU0.below hb4
        refine ⟨_, rfl, .inr hU1, ?_⟩
        simp only [Act.put, List.setIfInBounds_toArray, List.set_cons_zero, List.set_cons_succ]
        refine onlyCall 14 46 rfl rfl (by kernel_rfl) rfl (exec_call [.int .i64 n, .int .i64 n'] rfl rfl Tryz.func98 (by kernel_rfl) (by kernel_rfl)) ?_
        refine (cmp64_any _ _ _).mono ?_
        rintro e w' ⟨rfl, rfl⟩
        refine ⟨_, rfl, .inr hU1, ?_⟩
        simp only [Act.put, List.setIfInBounds_toArray, List.set_cons_zero, List.set_cons_succ]
        have hU2 : TwoVD w (w4.alloc (.cells #[.int .i64 (cmpL cmpB ks ks'), .int .i64 (cmpL cmpV l l'), .int .i64 (cmpI n n')] 3)) #[.int .i64 k, .bool b, .int .i64 n, .string (strB t), .slice pk ks.length ck, .slice pl l.length cl] #[.int .i64 k, .bool b', .int .i64 n', .string (strB t'), .slice pk' ks'.length ck', .slice pl' l'.length cl'] := hU1.below (belowD_new _)
        have hbs : (Instr.buildSlice 89 3 #[(0, .int .i64 (cmpL cmpB ks ks')), (1, .int .i64 (cmpL cmpV l l')), (2, .int .i64 (cmpI n n'))]).run Tryz.prog w4 = .ok (.slice (some ⟨w4.heap.size, 0, none⟩) 3 3) (w4.alloc (.cells #[.int .i64 (cmpL cmpB ks ks'), .int .i64 (cmpL cmpV l l'), .int .i64 (cmpI n n')] 3)) := by simp [go_sem]
        refine onlyRun 15 47 (v := .slice (some ⟨w4.heap.size, 0, none⟩) 3 3) rfl rfl (by kernel_rfl) rfl (exec_buildSlice3 rfl rfl rfl rfl hbs) (.inr hU2) ?_
        simp only [Act.put, List.setIfInBounds_toArray, List.set_cons_zero, List.set_cons_succ]
        refine onlyCall 16 48 rfl rfl (by kernel_rfl) rfl (exec_call [.slice (some ⟨w4.heap.size, 0, none⟩) 3 3] rfl rfl Tryz.func96 (by kernel_rfl) (by kernel_rfl)) ?_
        refine (or_any (cmpL cmpB ks ks') (cmpL cmpV l l') (cmpI n n') _ w4.heap.size (cellOf (heap_alloc_new _ _) rfl) (cellOf (heap_alloc_new _ _) rfl) (cellOf (heap_alloc_new _ _) rfl)).mono ?_
        rintro e w' ⟨rfl, rfl⟩
        have hU3 := hU2
        refine ⟨_, rfl, .inr hU2, ?_⟩
        simp only [Act.put, List.setIfInBounds_toArray, List.set_cons_zero, List.set_cons_succ]
        refine take 17 4 (v := .int .i64 (orI (cmpL cmpB ks ks') (orI (cmpL cmpV l l') (cmpI n n')))) rfl rfl (by kernel_rfl) (by kernel_rfl) (by kernel_rfl) rfl (fun W hW => exec_assign rfl rfl) (by assumption) ?_
        simp only [Act.put, List.setIfInBounds_toArray, List.set_cons_zero, List.set_cons_succ]
        refine done (by kernel_rfl) ?_ _
        have HF := Lib.hid hU3.2.2
        clear hU0 hU1 hU2 hU3 hT1 hT2 hbs
        generalize World.alloc _ _ = W9 at *
        go_wp2
        go_ret
        exact ⟨ret_int HR.out.symm, HF.out⟩
  · have d : (cmpI (rankV k) (rankV k') != 0) = true := by simpa using hr
    have HR := Lib.hid (H2.out.1 hr)
    have HT := Lib.hid hT
    clear hT hr
    go_wp2
    go_ret
    exact ⟨ret_int HR.out.symm, belowD_trans HT.out.2.2 (BelowD.refl _ _).drew⟩
end Go.Proofs.YtnkaegdnjfpliaaGreatDoor

/-! Copies that lie apart: no block belongs to two of them. -/
namespace Go.Proofs.YtnkaegdnjfpliaaGreatDoor
set_option linter.unusedSimpArgs false
set_option linter.unusedVariables false
open Go.RowKit

/-- A value, its cells, its blocks. -/
structure El where
  v : V
  x : Array Value
  Q : Nat → Prop
def Apart (a b : El) : Prop := ∀ n, a.Q n → ¬ b.Q n
theorem Apart.symm {a b : El} (h : Apart a b) : Apart b a := fun n h1 h2 => h n h2 h1
/-- Values in memory of blocks of P, none of which belongs to two. -/
def VOwnsD (w : World) (P : Nat → Prop) (l : List V) (xs : List (Array Value)) : Prop := ∃ es : List El, es.map El.v = l ∧ es.map El.x = xs ∧ (∀ e ∈ es, VOwn w e.Q e.v e.x ∧ ∀ b, e.Q b → P b) ∧ es.Pairwise Apart
theorem VOwnsD.nil (w : World) (P : Nat → Prop) : VOwnsD w P [] [] := ⟨[], rfl, rfl, by simp, .nil⟩
section
variable {w w' : World} {P P' P1 Q : Nat → Prop} {l : List V} {xs : List (Array Value)} {v : V} {x : Array Value}
theorem VOwnsD.keep (hk : ∀ b, P b → b < w.heap.size → w'.heap[b]? = w.heap[b]?) (h : VOwnsD w P l xs) : VOwnsD w' P l xs := by
  obtain ⟨es, h1, h2, h3, h4⟩ := h
  exact ⟨es, h1, h2, fun e he => ⟨(h3 e he).1.keep fun b hb hlt => hk b ((h3 e he).2 b hb) hlt, (h3 e he).2⟩, h4⟩
theorem VOwnsD.below (h : VOwnsD w P l xs) (g : Below w.heap.size w w') : VOwnsD w' P l xs := h.keep fun b _ hb => g.block b hb
theorem VOwnsD.imp (hp : ∀ b, b < w.heap.size → P b → P' b) (h : VOwnsD w P l xs) : VOwnsD w P' l xs := by
  obtain ⟨es, h1, h2, h3, h4⟩ := h
  refine ⟨es.map fun e => { e with Q := fun b => e.Q b ∧ b < w.heap.size }, by rw [List.map_map]; exact h1, by rw [List.map_map]; exact h2, fun e he => ?_, ?_⟩
  · obtain ⟨a, ha, rfl⟩ := List.mem_map.1 he
    exact ⟨(h3 a ha).1.imp fun b hb hq => ⟨hq, hb⟩, fun b hb => hp b hb.2 ((h3 a ha).2 b hb.1)⟩
  · rw [List.pairwise_map]
    exact h4.imp fun h n h1 h2 => h n h1.1 h2.1
theorem VOwnsD.owns (h : VOwnsD w P l xs) : VOwns w P l xs := by
  obtain ⟨es, rfl, rfl, h3, h4⟩ := h
  clear h4
  induction es with
  | nil => rfl
  | cons a r ih => exact ⟨a.x, r.map El.x, rfl, (h3 a (by simp)).1.imp fun b _ hb => (h3 a (by simp)).2 b hb, ih fun e he => h3 e (by simp [he])⟩
theorem VOwnsD_snoc (h : VOwnsD w P1 l xs) (h1 : ∀ b, P1 b → P b) (hv : VOwn w Q v x) (hq : ∀ b, Q b → P b) (hd : ∀ b, P1 b → ¬ Q b) : VOwnsD w P (l ++ [v]) (xs ++ [x]) := by
  obtain ⟨es, rfl, rfl, h3, h4⟩ := h
  refine ⟨es ++ [⟨v, x, Q⟩], by simp, by simp, fun e he => ?_, ?_⟩
  · rcases List.mem_append.1 he with he | he
    · exact ⟨(h3 e he).1, fun b hb => h1 b ((h3 e he).2 b hb)⟩
    · rw [List.mem_singleton.1 he]; exact ⟨hv, hq⟩
  · refine List.pairwise_append.2 ⟨h4, List.pairwise_singleton _ _, fun a ha b hb n h5 h6 => ?_⟩
    rw [List.mem_singleton.1 hb] at h6
    exact hd n ((h3 a ha).2 n h5) h6
end
/-- A row of values of one's own that lie apart, none in the row's own block. -/
def LOwnD (w : World) (P : Nat → Prop) (vl : Value) (l : List V) : Prop := ∃ xs, OwnsP w P 26 6 vl l.length (xs.flatMap Array.toList) ∧ VOwnsD w (fun b => P b ∧ vl.ownBlock ≠ some b) l xs
theorem LOwnD.nil (w : World) (P : Nat → Prop) : LOwnD w P (.slice none 0 0) [] := ⟨[], ⟨⟨rfl, .inl ⟨rfl, rfl⟩⟩, fun g hg => by simp [Value.ownBlock] at hg⟩, VOwnsD.nil _ _⟩
theorem LOwnD.own {w : World} {P : Nat → Prop} {vl : Value} {l : List V} (h : LOwnD w P vl l) : LOwn w P vl l := by
  obtain ⟨xs, h1, h2⟩ := h
  exact ⟨xs, h1, h2.owns.imp fun b _ hb => hb.1⟩
theorem LOwnD.keep {w w' : World} {P : Nat → Prop} {vl : Value} {l : List V} (h : LOwnD w P vl l) (hk : ∀ b, P b → b < w.heap.size → w'.heap[b]? = w.heap[b]?) : LOwnD w' P vl l := by
  obtain ⟨xs, h1, h2⟩ := h
  exact ⟨xs, h1.keep hk, h2.keep fun b hb hlt => hk b hb.1 hlt⟩
theorem LOwnD.below {w w' : World} {P : Nat → Prop} {vl : Value} {l : List V} (h : LOwnD w P vl l) (g : Below w.heap.size w w') : LOwnD w' P vl l := h.keep fun b _ hb => g.block b hb
theorem LOwnD.imp {w : World} {P P' : Nat → Prop} {vl : Value} {l : List V} (h : LOwnD w P vl l) (hp : ∀ b, b < w.heap.size → P b → P' b) : LOwnD w P' vl l := by
  obtain ⟨xs, h1, h2⟩ := h
  exact ⟨xs, h1.imp hp, h2.imp fun b hb k => ⟨hp b hb k.1, k.2⟩⟩
/-- Copies so far that lie apart. -/
def CInvD (w W : World) (ov : Value) (m : List V) : Prop := ∃ xs, OwnsP W (fun b => w.heap.size ≤ b) 26 6 ov m.length (xs.flatMap Array.toList) ∧ VOwnsD W (fun b => w.heap.size ≤ b ∧ ov.ownBlock ≠ some b) m xs ∧ Below w.heap.size w W
theorem CInvD.below {w W W' : World} {ov : Value} {m : List V} (h : CInvD w W ov m) (g : Below W.heap.size W W') : CInvD w W' ov m := by
  obtain ⟨xs, h1, h2, h3⟩ := h
  exact ⟨xs, h1.keep fun b _ hb => g.block b hb, h2.below g, below_trans h3 g⟩
theorem CInvD.start {w W : World} (h : Below w.heap.size w W) : CInvD w W (.slice none 0 0) [] := ⟨[], ⟨⟨rfl, .inl ⟨rfl, rfl⟩⟩, fun g hg => by simp [Value.ownBlock] at hg⟩, VOwnsD.nil _ _, h⟩
theorem CInvD.own {w W : World} {ov : Value} {m : List V} (h : CInvD w W ov m) : LOwnD W (fun b => w.heap.size ≤ b) ov m := by
  obtain ⟨xs, h1, h2, h3⟩ := h
  exact ⟨xs, h1, h2⟩
theorem CInvD.step {w W W1 : World} {ov : Value} {m : List V} {v : V} {x : Array Value} {base : Nat} (h : CInvD w W ov m) (hbase : W.heap.size ≤ base) (hb : Below W.heap.size W W1) (hx : VOwn W1 (fun b => base ≤ b) v x) (hm : m.length ≤ 1000000) (ty : TypeId) :
    ∃ v' W2, (Builtin.append_ #[24, 24] ty #[ov, .slice (some ⟨W1.heap.size, 0, none⟩) 1 1]).run Tryz.prog (W1.alloc (.cells x 26)) = .ok v' W2 ∧ CInvD w W2 v' (m ++ [v]) := by
  have hnew : Below W1.heap.size W1 (W1.alloc (.cells x 26)) := below_new _
  have hlt : ∀ g, ov.ownBlock = some g → g < W.heap.size := by
    obtain ⟨xs, h1, _⟩ := h
    exact fun g hg => (h1.1.lt g hg).2
  have hwW : w.heap.size ≤ W.heap.size := by obtain ⟨_, _, _, h⟩ := h; exact h.size
  obtain ⟨xs, h1, h2, h3⟩ := h
  have h2 := ((h2.imp (P' := fun b => w.heap.size ≤ b ∧ ov.ownBlock ≠ some b ∧ b < W.heap.size) fun b hb hp => ⟨hp.1, hp.2, hb⟩).below hb).below hnew
  have h1 := (h1.keep (w' := W1) fun b _ hb2 => hb.block b hb2).keep (w' := W1.alloc (.cells x 26)) fun b _ hb2 => hnew.block b hb2
  have h3 := below_trans (below_trans h3 hb) hnew
  have hx' := hx.below hnew
  obtain ⟨v', W2, a1, a2, a3, a4, a5⟩ := append_val h1.1 hx.size6 hx.ones (heap_alloc_new W1 _) hm ty
  have hz := hb.size
  have hz2 := hnew.size
  refine ⟨v', W2, a1, xs ++ [x], ⟨?_, fun g hg => ?_⟩, ?_, ?_⟩
  · rw [List.flatMap_append, List.length_append]
    simpa using a2
  · rcases a4 with e | e
    · exact h1.2 g (e.symm.trans hg)
    · rw [e] at hg
      cases hg
      have := h3.size
      omega
  · have hs : VOwnsD (W1.alloc (.cells x 26)) (fun b => w.heap.size ≤ b ∧ ov.ownBlock ≠ some b ∧ b < (W1.alloc (.cells x 26)).heap.size) (m ++ [v]) (xs ++ [x]) :=
      VOwnsD_snoc h2 (fun b hp => ⟨hp.1, hp.2.1, by have := hp.2.2; omega⟩) (hx'.imp (P' := fun b => base ≤ b ∧ b < (W1.alloc (.cells x 26)).heap.size) fun b hb hp => ⟨hp, hb⟩)
        (fun b hp => ⟨by have := hp.1; omega, fun e => by have := hlt b e; have := hp.1; omega, hp.2⟩) (fun b hp hq => by have := hp.2.2; have := hq.1; omega)
    refine (hs.keep (w' := W2) fun b hp hb => a3.block b hb hp.2.1).imp fun b _ hp => ⟨hp.1, ?_⟩
    rcases a4 with e | e
    · rw [e]; exact hp.2.1
    · rw [e]; intro e2; cases e2; have := hp.2.2; omega
  · exact a3.below h3 (fun b hb e => by have := h1.2 b e; omega) h3.size
end Go.Proofs.YtnkaegdnjfpliaaGreatDoor

/-! value.Sorted: values in order. Printed by gen_sortc.py. -/
namespace Go.Proofs.YtnkaegdnjfpliaaGreatDoor
set_option linter.unusedSimpArgs false
set_option linter.unusedVariables false
open Go.RowKit Go.Sort

set_option maxRecDepth 100000 in
set_option maxHeartbeats 4000000 in
theorem copiesC_any {w : World} {p : Option Addr} {c : Nat} {l : List V} (hl : LRd w p c l) (hn : l.length ≤ 1000000)
    (hc : ∀ v ∈ l, ∀ (W : World) (x : Array Value), VRd W v x → Calls Tryz.prog 51 #[.agg x] W (CopyOk W v)) :
    Calls Tryz.prog 83 #[.slice p l.length c] w fun e w' => ∃ vl, e = .returned vl ∧ CInvD w w' vl l ∧ Below w.heap.size w w' := by
  have HL := Lib.hid hl
  have HC := Lib.hid hc
  have z1 : (l.length : Int) ≤ 140737488355328 := by omega
  clear hl hc
  go_enter Tryz.func83, Tryz.ntmps83
  go_wp2
  go_loopw [3, 8] (fun o i wr => ∃ j : Nat, j ≤ l.length ∧ i = .int .i64 (j : Int) ∧ Hid (CInvD w wr o (l.take j))) (fun _ i _ => l.length - (intOf i).toNat)
  case atStart => exact ⟨0, Nat.zero_le _, rfl, Lib.hid (CInvD.start (Below.refl _ _))⟩
  case round =>
    obtain ⟨j, hj, rfl, HJ⟩ := hrel
    by_cases hlt : j < l.length
    · have hlt1 : j + 1 ≤ l.length := hlt
      have htk : l.take (j + 1) = l.take j ++ [l[j]] := List.take_succ_eq_append_getElem hlt
      have hbw : Below w.heap.size w wr := by obtain ⟨_, _, _, h⟩ := HJ.out; exact h
      obtain ⟨g1, o1, pk1, ck1, pl1, cl1, rfl, ⟨a0, a1, a2, a3, a4, a5⟩, hv1⟩ := (HL.out.below hbw).at hlt
      have hcall := HC.out l[j] (List.getElem_mem hlt)
      generalize l[j] = s1 at *
      have HD := Lib.hid (And.intro htk (And.intro hcall hv1))
      have HN := Lib.hid hn
      clear htk hcall hv1 hbw hn
      go_wp2_with (first
        | (go_at_call 51
           refine (HD.out.2.1 _ _ (HD.out.2.2.below (below_new _))).mono ?_
           rintro e w1 ⟨x, rfl, hx, hb⟩
           obtain ⟨v', W2, ha, hI⟩ := HJ.out.step (Nat.le_succ _) (below_trans (below_new _) hb) (hx.imp fun b _ hp => by simpa using hp) (by rw [List.length_take]; have := HN.out; omega) 24
           rw [← HD.out.1] at hI
           obtain ⟨vk, vl, rfl, _⟩ := hx.open
           have Ha := Lib.hid ha
           have HI := Lib.hid hI
           clear ha hI hx hb HJ HD)
        | (refine wpList_append rfl rfl rfl rfl Ha.out ?_))
      go_roundw
      case rel => exact ⟨j + 1, hlt1, by go_num, HI⟩
      case measure => simp [intOf]; omega
    · obtain rfl : j = l.length := by omega
      go_wp2
      go_ret
      have h := HJ.out
      rw [List.take_length] at h
      have hb : Below w.heap.size w wr := by obtain ⟨_, _, _, h⟩ := h; exact h
      exact ⟨_, rfl, h, hb⟩
/-- What is laid and drawn behind a call, said as the sort's kit says it. -/
theorem grow_of {W w' : World} (h : BelowD W.heap.size W w') : ∃ q os, w' = grow (W.drewN q) os := by
  obtain ⟨⟨h1, h2, h3, h4, h5⟩, h6⟩ := h
  refine ⟨w'.drawn - W.drawn, w'.heap.extract W.heap.size w'.heap.size, ?_⟩
  have e1 : W.heap ++ w'.heap.extract W.heap.size w'.heap.size = w'.heap := by
    apply Array.ext_getElem?
    intro k
    by_cases hk : k < W.heap.size
    · rw [Array.getElem?_append_left hk]; exact (h5 k hk).symm
    · rw [Array.getElem?_append_right (by omega), Array.getElem?_extract]
      by_cases hk2 : k < w'.heap.size
      · rw [if_pos (by omega)]; congr 1; omega
      · rw [if_neg (by omega), Array.getElem?_eq_none (by omega)]
  have e2 : W.drawn + (w'.drawn - W.drawn) = w'.drawn := by omega
  show w' = { heap := W.heap ++ w'.heap.extract W.heap.size w'.heap.size, tape := W.tape, drawn := W.drawn + (w'.drawn - W.drawn), os := W.os, output := W.output }
  rw [e1, e2, ← h1, ← h2, ← h3]
/-- An element that is sorted: a value and its cells, in memory of blocks of P. -/
structure Elem (w : World) (P : Nat → Prop) where
  v : V
  x : Array Value
  Q : Nat → Prop
  own : VOwn w Q v x
  sub : ∀ b, Q b → P b
  tot : totV v ≤ 1000000
  may : mayV Lib.validD v = true
def encE {w : World} {P : Nat → Prop} (e : Elem w P) : List Value := e.x.toList
def cmpE {w : World} {P : Nat → Prop} (a b : Elem w P) : Int := cmpV a.v b.v
theorem swo_cmpE {w : World} {P : Nat → Prop} : SWO (Go.Proofs.ltOf (cmpE (w := w) (P := P))) := by
  have hO := fun (x : Elem w P) => ord_cmpV x.v
  refine ⟨fun x => ?_, fun x y z h1 h2 => ?_, fun x y z h1 h2 => ?_⟩
  · show decide (cmpV x.v x.v < 0) = false
    rw [(hO x).self]; rfl
  · have a1 : cmpV x.v y.v < 0 := of_decide_eq_true h1
    have a2 : cmpV y.v z.v < 0 := of_decide_eq_true h2
    have e1 : cmpV x.v y.v = -1 := by have := (hO x).range y.v; omega
    have := (hO x).chain y.v z.v e1 (by omega)
    exact decide_eq_true (show cmpV x.v z.v < 0 by omega)
  · have a1 : ¬ cmpV x.v y.v < 0 := of_decide_eq_false h1
    have a2 : ¬ cmpV y.v z.v < 0 := of_decide_eq_false h2
    refine decide_eq_false (p := cmpV x.v z.v < 0) fun h3 => ?_
    have e1 : cmpV x.v z.v = -1 := by have := (hO x).range z.v; omega
    have e2 : cmpV z.v y.v ≤ 0 := by have := (hO y).anti z.v; omega
    have := (hO x).chain z.v y.v e1 e2
    omega
theorem elems_q {w : World} {P : Nat → Prop} : ∀ (es : List El), (∀ e ∈ es, VOwn w e.Q e.v e.x ∧ ∀ b, e.Q b → P b) → totVs (es.map El.v) ≤ 1000000 → (∀ v ∈ es.map El.v, mayV Lib.validD v = true) →
    ∃ q : List (Elem w P), q.map Elem.v = es.map El.v ∧ q.map Elem.x = es.map El.x ∧ q.map Elem.Q = es.map El.Q
  | [], _, _, _ => ⟨[], rfl, rfl, rfl⟩
  | a :: r, h3, ht, hm => by
    rw [List.map_cons, totVs_cons] at ht
    obtain ⟨q, e1, e2, e3⟩ := elems_q r (fun e he => h3 e (by simp [he])) (by omega) (fun v hv => hm v (by rw [List.map_cons]; exact List.mem_cons_of_mem _ hv))
    obtain ⟨k1, k2⟩ := h3 a (by simp)
    exact ⟨⟨a.v, a.x, a.Q, k1, k2, by omega, hm a.v (by simp)⟩ :: q, by simp [e1], by simp [e2], by simp [e3]⟩
theorem elems_of {w : World} {P : Nat → Prop} {l : List V} {xs : List (Array Value)} (h : VOwnsD w P l xs) (ht : totVs l ≤ 1000000) (hm : ∀ v ∈ l, mayV Lib.validD v = true) :
    ∃ es : List (Elem w P), es.map Elem.v = l ∧ es.map Elem.x = xs ∧ es.Pairwise (fun a b => ∀ n, a.Q n → ¬ b.Q n) := by
  obtain ⟨es, rfl, rfl, h3, h4⟩ := h
  obtain ⟨q, e1, e2, e3⟩ := elems_q es h3 ht hm
  refine ⟨q, e1, e2, ?_⟩
  have h5 : (es.map El.Q).Pairwise (fun (A B : Nat → Prop) => ∀ n, A n → ¬ B n) := by rw [List.pairwise_map]; exact h4
  rw [← e3, List.pairwise_map] at h5
  exact h5
theorem owns_of {w w' : World} {P : Nat → Prop} (hk : ∀ b, P b → b < w.heap.size → w'.heap[b]? = w.heap[b]?) (es : List (Elem w P)) (h : es.Pairwise (fun a b => ∀ n, a.Q n → ¬ b.Q n)) : VOwnsD w' P (es.map Elem.v) (es.map Elem.x) := by
  refine ⟨es.map fun e => ⟨e.v, e.x, e.Q⟩, by rw [List.map_map]; rfl, by rw [List.map_map]; rfl, fun e he => ?_, ?_⟩
  · obtain ⟨a, ha, rfl⟩ := List.mem_map.1 he
    exact ⟨a.own.keep fun b hb hlt => hk b (a.sub b hb) hlt, a.sub⟩
  · rw [List.pairwise_map]; exact h
theorem encE_len {w : World} {P : Nat → Prop} (x : Elem w P) : (encE x).length = 6 := by have := x.own.size6; simpa [encE] using this
theorem encE_ones {w : World} {P : Nat → Prop} (x : Elem w P) : ∀ v ∈ encE x, v.oneCell' = true := fun v hv => x.own.ones v hv
theorem flatK_eq {w : World} {P : Nat → Prop} [Inhabited (Elem w P)] (d : Array (Elem w P)) : flatK encE 6 d = ((d.toList.map Elem.x).flatMap Array.toList).toArray := by
  have h6 : ∀ x ∈ d.toList.map Elem.x, x.size = 6 := by
    intro x hx
    obtain ⟨e, _, rfl⟩ := List.mem_map.1 hx
    exact e.own.size6
  have hl := flat_len h6
  refine ext_get! (by simp only [size_flatK, List.size_toArray, hl]; simp) fun t ht => ?_
  have ht' : t < d.size * 6 := by simpa using ht
  rw [get_flatK _ _ _ _ ht']
  have hq : t / 6 < d.size := by omega
  have hf := flat_six h6 (t / 6) (d[t / 6]).x (by simp [hq]) (t % 6) (by omega)
  have e : t / 6 * 6 + t % 6 = t := by omega
  rw [e] at hf
  have h2 : t % 6 < (d[t / 6]).x.size := by rw [(d[t / 6]).own.size6]; omega
  rw [Array.getElem?_eq_getElem h2] at hf
  have hlt : t < ((d.toList.map Elem.x).flatMap Array.toList).length := by rw [hl]; simpa using ht'
  rw [List.getElem?_eq_getElem hlt, Option.some.injEq] at hf
  rw [getElem!_pos d (t / 6) hq, getElem!_pos _ t (by simpa using hlt)]
  simp only [encE]
  rw [getElem!_pos _ (t % 6) (by simpa using h2)]
  simpa using hf.symm
theorem cmp_lays {w : World} {P : Nat → Prop} {g n : Nat} [Inhabited (Elem w P)] (hg : g < w.heap.size) (hP : ∀ b, P b → b ≠ g) : CmpLays Tryz.prog 63 #[] (encE (w := w) (P := P)) 6 cmpE g 0 n w := by
  intro m os dk hs x y
  have hk : ∀ b, P b → b < w.heap.size → (sortWorldK encE 6 w g 0 m dk os).heap[b]? = w.heap[b]? := fun b hb hlt => sortWorld_other id w g m (flatK encE 6 dk) os hlt (hP b hb)
  have hx : VRd (sortWorldK encE 6 w g 0 m dk os) x.v x.x := (x.own.keep fun b hb => hk b (x.sub b hb)).rd x.tot
  have hy : VRd (sortWorldK encE 6 w g 0 m dk os) y.v y.x := (y.own.keep fun b hb => hk b (y.sub b hb)).rd y.tot
  generalize sortWorldK encE 6 w g 0 m dk os = W at *
  have hc := (compareD_any x.v x.may y.v y.may hx hy).mono (R' := fun e w' => e = .returned (.int .i64 (cmpE x y)) ∧ ∃ q os', w' = grow (W.drewN q) os') fun e w' h => ⟨h.1, grow_of h.2⟩
  simpa [encE] using hc
set_option maxHeartbeats 1000000 in
/-- slices.SortFunc over values of one's own, by compare. -/
theorem sortF_any {w : World} {P : Nat → Prop} {l : List V} {vl : Value} (h : LOwnD w P vl l) (ht : totVs l ≤ 1000000) (hm : ∀ v ∈ l, mayV Lib.validD v = true) :
    Calls Tryz.prog 91 #[vl, .func (.func 63) #[] #[]] w fun e w' => e = .returned (.tuple #[]) ∧
      ∃ l' : List V, l'.Perm l ∧ l'.Pairwise (fun a b => cmpV a b ≤ 0) ∧ LOwnD w' P vl l' ∧ Touch (fun b => vl.ownBlock = some b) w w' := by
  have hlen := totVs_length l
  by_cases h0 : l.length = 0
  · have e0 : l = [] := List.eq_nil_of_length_eq_zero h0
    subst e0
    have hs : ∃ p c, vl = .slice p 0 c := by obtain ⟨xs, h1, _⟩ := h; exact slices_of h1
    obtain ⟨p, c, rfl⟩ := hs
    refine (AnyF.slices_SortFunc_none Tryz.sortVals p c _ w).mono ?_
    rintro e w' ⟨rfl, rfl⟩
    exact ⟨rfl, [], .refl _, .nil, h, Touch.refl _ _⟩
  · obtain ⟨xs, h1, h2⟩ := h
    rcases h1.1.2 with ⟨rfl, e⟩ | ⟨g, cap, cur, rfl, _, hg, hnc, hcm, hcs, htake⟩
    · omega
    have hglt := (Array.getElem?_eq_some_iff.1 hg).1
    have h2' : VOwnsD w (fun b => P b ∧ b ≠ g) l xs := h2.imp fun b _ hb => ⟨hb.1, fun e => hb.2 (by rw [e]; rfl)⟩
    have hne : ∀ b, (P b ∧ b ≠ g) → b ≠ g := fun b hb => hb.2
    clear h2
    obtain ⟨es, rfl, rfl, hap⟩ := elems_of h2' ht hm
    have hel : es.length ≠ 0 := by simpa using h0
    haveI : Inhabited (Elem w fun b => P b ∧ b ≠ g) := ⟨es[0]⟩
    have hl : (es.map Elem.v).length = es.toArray.size := by simp
    have hflat := flatK_eq es.toArray
    have hflen : ((es.map Elem.x).flatMap Array.toList).length = es.length * 6 := by
      have := h1.1.1; simpa using this
    have hH : HoldsK encE 6 w g 0 es.toArray := by
      intro j hj
      rw [hflat] at hj ⊢
      have hj2 : j < ((es.map Elem.x).flatMap Array.toList).length := by simpa using hj
      refine ⟨?_, by rw [Nat.zero_add]; exact freeOf hg⟩
      have := h1.1.cells (g := g) rfl j _ (List.getElem?_eq_getElem hj2)
      rw [addr_add] at this
      rw [getElem!_pos _ j (by simpa using hj2)]
      simpa using this
    have hsz : es.toArray.size < 4611686018427387904 := by rw [← hl]; omega
    have hS := AnyQ.slices_SortFunc Tryz.sortVals 6 (fun w => Tryz.isAgg26 w) (fun w => Tryz.sizeOf26 w) encE encE_len encE_ones cmpE swo_cmpE 63 #[] g 0 cap es.toArray w
      (enters_of Tryz.func63 (by kernel_rfl) rfl) (cmp_lays hglt hne) hH hglt hsz
    rw [← hl] at hS
    refine hS.mono ?_
    rintro e w' ⟨rfl, d', m, os, hperm, hsort, rfl⟩
    have hds : d'.size = es.length := by rw [hperm.1]; simp
    have hT := sortWorld_touch id w g m (flatK encE 6 d') os
    have hrow := sortWorld_row id w g m (flatK encE 6 d') os hg
    have hT' : Touch (fun b => b = g) w (sortWorldK encE 6 w g 0 m d' os) := hT
    have hrow' : (sortWorldK encE 6 w g 0 m d' os).heap[g]? = some (.cells (putCells id 0 (flatK encE 6 d') cur) 26 (0, 0)) := hrow
    clear hT hrow
    generalize sortWorldK encE 6 w g 0 m d' os = W at *
    have hp : d'.toList.Perm es := by
      have h3 := hperm.2.2
      rw [extract_all d' _ (by rw [hds]; simp), extract_all es.toArray _ (by simp)] at h3
      simpa using h3
    have hfl2 := flatK_eq d'
    have hlen2 : (d'.toList.map Elem.v).length = (es.map Elem.v).length := by simp [hds]
    have h62 : ∀ x ∈ d'.toList.map Elem.x, x.size = 6 := by
      intro x hx
      obtain ⟨e, _, rfl⟩ := List.mem_map.1 hx
      exact e.own.size6
    have hfl6 := flat_len h62
    rw [hfl2] at hrow'
    refine ⟨rfl, d'.toList.map Elem.v, hp.map _, ?_, ⟨d'.toList.map Elem.x, ⟨⟨?_, .inr ⟨g, cap, _, by rw [hlen2], Nat.zero_le _, hrow', by rw [hlen2]; exact hnc, hcm, ?_, ?_⟩⟩, fun q hq => h1.2 q hq⟩, ?_⟩, hT'.mono fun b _ hb => by rw [hb]; rfl⟩
    · rw [List.pairwise_map, List.pairwise_iff_getElem]
      intro i j hi hj hij
      have hi2 : i < d'.size := by simpa using hi
      have hj2 : j < d'.size := by simpa using hj
      have h5 := hsort i j (Nat.zero_le _) hij (by rw [hds] at hj2; simpa using hj2)
      rw [getElem!_pos d' i hi2, getElem!_pos d' j hj2] at h5
      have h6 : ¬ cmpV d'[j].v d'[i].v < 0 := of_decide_eq_false h5
      have := (ord_cmpV d'[j].v).anti d'[i].v
      simp only [Array.getElem_toList]
      omega
    · rw [hfl6]; simp
    · unfold putCells; simpa using hcs
    · have hc6 : es.length * 6 ≤ cur.size := by
        rw [hcs]; have : es.length ≤ cap := by simpa using hnc
        exact Nat.mul_le_mul_right 6 this
      apply List.ext_getElem?
      intro t
      have hfs : (List.flatMap Array.toList (List.map Elem.x d'.toList)).length = es.length * 6 := by rw [hfl6]; simp [hds]
      by_cases hlt : t < es.length * 6
      · rw [List.getElem?_take_of_lt (by simpa [hds] using hlt)]
        have h7 : t < ((List.flatMap Array.toList (List.map Elem.x d'.toList))).length := by omega
        unfold putCells
        rw [Array.getElem?_toList, Array.getElem?_mapIdx, Array.getElem?_eq_getElem (by omega), Option.map_some, if_pos ⟨Nat.zero_le _, by simpa using h7⟩, List.getElem?_eq_getElem h7, getElem!_pos _ _ (by simpa using h7)]
        simp
      · rw [List.getElem?_eq_none (by rw [List.length_take]; simp [hds]; omega), List.getElem?_eq_none (by omega)]
    · exact (owns_of (fun b hb hlt => hT'.block b hlt (hne b hb)) d'.toList ((hp.pairwise_iff (fun {a b} h n h1 h2 => h n h2 h1)).2 hap)).imp fun b _ hb => ⟨hb.1, fun e => hb.2 (by cases e; rfl)⟩
set_option maxRecDepth 100000 in
set_option maxHeartbeats 2000000 in
/-- value.Sorted. -/
theorem sorted_any {w : World} {p : Option Addr} {c : Nat} {l : List V} (hE : Env w) (hl : LRd w p c l) (ht : totVs l ≤ 900000) :
    Calls Tryz.prog 55 #[.slice p l.length c] w fun e w' => Below w.heap.size w w' ∧ ∃ vl l', e = .returned vl ∧ LOwnD w' (fun b => w.heap.size ≤ b) vl l' ∧
      ((fineL l = true ∧ l'.Perm l ∧ l'.Pairwise (fun a b => cmpV a b ≤ 0)) ∨ (fineL l = false ∧ l' = [])) := by
  have HF := Lib.hid (fine_any hE hl (by omega))
  have hlen := totVs_length l
  have HC := Lib.hid (fun (W : World) (hb : Below w.heap.size w W) => copiesC_any (hl.below hb) (by omega) (fun v hv W x hx => copy_any v (by have := totVs_mem hv; omega) W x hx))
  cases hf : fineL l with
  | true =>
    rw [hf] at HF
    have hm := fineL_may hf
    have HS := Lib.hid (fun (W : World) (P : Nat → Prop) (vl : Value) (h : LOwnD W P vl l) => sortF_any h (by omega) hm)
    clear hE hl ht hlen hm hf
    go_enter Tryz.func55, Tryz.ntmps55
    go_wp2_with (first
      | (go_at_call 62; refine HF.out.mono ?_; rintro e w1 ⟨rfl, hb⟩; have HB := Lib.hid hb; clear hb)
      | (go_at_call 83
         (
           refine (HC.out _ HB.out).mono ?_
           rintro e w2 ⟨vl, rfl, ⟨xs, h1, h2, h3⟩, hb⟩
           obtain ⟨p2, c2, rfl⟩ := slices_of h1
           have HO := Lib.hid (show LOwnD w2 (fun b => w1.heap.size ≤ b) (.slice p2 l.length c2) l from ⟨xs, h1, h2⟩)
           have HB2 := Lib.hid (And.intro HB.out hb)
           clear h1 h2 h3 hb))
      | (go_at_call 91
         (
           refine (HS.out _ _ _ HO.out).mono ?_
           rintro e w3 ⟨rfl, l', hp, hs, ho, hT⟩
           have hlow : Below w1.heap.size w1 w3 := hT.below HB2.out.2 (fun b hb e => by
             obtain ⟨xs, h1, _⟩ := HO.out
             have := h1.2 b e; omega) HB2.out.2.size
           have HR := Lib.hid (And.intro hp (And.intro hs (And.intro ho (below_trans HB2.out.1 hlow))))
           have hz := HB2.out.1.size
           clear hp hs ho hT hlow)))
    go_ret
    exact ⟨HR.out.2.2.2, _, _, rfl, HR.out.2.2.1.imp fun b _ hb => by omega, .inl ⟨by simp, HR.out.1, HR.out.2.1⟩⟩
  | false =>
    rw [hf] at HF
    clear hE hl ht hlen hf HC
    go_enter Tryz.func55, Tryz.ntmps55
    go_wp2_with (go_at_call 62; refine HF.out.mono ?_; rintro e w1 ⟨rfl, hb⟩; have HB := Lib.hid hb; clear hb)
    go_ret
    exact ⟨HB.out, _, [], rfl, LOwnD.nil _ _, .inr ⟨by simp, rfl⟩⟩
end Go.Proofs.YtnkaegdnjfpliaaGreatDoor

/-! Maps whose keys are strings, as functions: what a lookup, a store do. Nothing of the program is named here. -/
namespace Go.Proofs.YtnkaegdnjfpliaaGreatDoor
set_option linter.unusedSimpArgs false
set_option linter.unusedVariables false
open Go.RowKit

/-- An entry's key, if it is a string. -/
def keyS (e : MapEntry) : Option (List UInt8) := match e.key with | .string s => some s.data.toList | _ => none
theorem keyS_of {e : MapEntry} {k : List UInt8} (h : e.key = .string (strB k)) : keyS e = some k := by simp [keyS, h, strB]

theorem strB_eqb (a b : List UInt8) : (strB a == strB b) = decide (a = b) := by
  rw [beq_toListBytes, strB_toList, strB_toList]
  rw [Bool.eq_iff_iff, beq_iff_eq, decide_eq_true_iff]
/-- The value under a key, in a map's entries. -/
def getE (es : List MapEntry) (k : List UInt8) : Option Value :=
  match es with
  | [] => none
  | e :: r => if keyS e = some k then some e.val else getE r k

def keysOf (es : List MapEntry) : List (List UInt8) := es.filterMap keyS

/-- The entries of a map with string keys: each key once, each birth once. -/
structure GoodE (es : List MapEntry) (clk : Nat) : Prop where
  int : ∀ e ∈ es, ∃ k, e.key = .string (strB k)
  keys : (keysOf es).Nodup
  born : (es.map (·.born)).Nodup
  clock : ∀ e ∈ es, e.born < clk

/-- Block b of w is a map with string keys, which holds m. -/
def StrMap (w : World) (b : Nat) (m : List UInt8 → Option Value) : Prop :=
  ∃ es clk, w.heap[b]? = some (.map es clk) ∧ GoodE es.toList clk ∧ ∀ k, getE es.toList k = m k

theorem StrMap.lt {w : World} {b : Nat} {m : List UInt8 → Option Value} (h : StrMap w b m) : b < w.heap.size := by
  obtain ⟨es, clk, h1, _⟩ := h; exact (Array.getElem?_eq_some_iff.1 h1).1
theorem StrMap.of_heap {w w' : World} {b : Nat} {m : List UInt8 → Option Value} (h : StrMap w b m) (hb : w'.heap[b]? = w.heap[b]?) : StrMap w' b m := by
  obtain ⟨es, clk, h1, h2⟩ := h; exact ⟨es, clk, hb.trans h1, h2⟩
theorem StrMap.touch {S : Nat → Prop} {w w' : World} {b : Nat} {m : List UInt8 → Option Value} (h : StrMap w b m) (g : Touch S w w') (hs : ¬ S b) : StrMap w' b m :=
  h.of_heap (g.block b h.lt hs)
theorem StrMap.grow {w w' : World} {b : Nat} {m : List UInt8 → Option Value} (h : StrMap w b m) (g : Below w.heap.size w w') : StrMap w' b m := h.of_heap (g.block b h.lt)
theorem StrMap.fresh {w : World} {b : Nat} (h : w.heap[b]? = some (.map #[] 0)) : StrMap w b (fun _ => none) :=
  ⟨#[], 0, h, ⟨by simp, by simp [keysOf], by simp, by simp⟩, fun _ => rfl⟩
theorem StrMap.made (w : World) : StrMap (w.alloc (.map #[] 0)) w.heap.size (fun _ => none) :=
  ⟨#[], 0, heap_alloc_new w _, ⟨by simp, by simp [keysOf], by simp, by simp⟩, fun _ => rfl⟩

theorem findNow_str {es : List MapEntry} (hi : ∀ e ∈ es, ∃ k, e.key = .string (strB k)) (k : List UInt8) (i : Nat) :
    ∃ r, Instr.findNow .string (.string (strB k)) es i = some r ∧ r.map (·.2) = getE es k ∧ ∀ p, r = some p → i ≤ p.1 ∧ p.1 - i < es.length ∧ ∃ e, es[p.1 - i]? = some e ∧ e.key = .string (strB k) := by
  induction es generalizing i with
  | nil => exact ⟨none, rfl, rfl, fun p h => by cases h⟩
  | cons e r ih =>
    obtain ⟨j, hj⟩ := hi e (by simp)
    by_cases hjk : k = j
    · subst hjk
      refine ⟨some (i, e.val), by simp [Instr.findNow, hj, Instr.sameNow, strB_eqb], by simp [getE, keyS_of hj], fun p h => ?_⟩
      cases h
      exact ⟨Nat.le_refl _, by simp, e, by simp, hj⟩
    · obtain ⟨q, h1, h2, h3⟩ := ih (fun e he => hi e (by simp [he])) (i + 1)
      refine ⟨q, ?_, ?_, fun p h => ?_⟩
      · have : (strB k == strB j) = false := by rw [strB_eqb, decide_eq_false_iff_not]; exact hjk
        simp only [Instr.findNow, hj, Instr.sameNow, if_true, this]; exact h1
      · rw [h2]; simp [getE, keyS_of hj, Ne.symm hjk]
      · obtain ⟨a, b, e', c, d⟩ := h3 p h
        refine ⟨by omega, by simp; omega, e', ?_, d⟩
        have : p.1 - i = (p.1 - (i + 1)) + 1 := by omega
        rw [this]; simpa using c

section
variable {P : Program} {T K E : TypeId} {w : World} {b : Nat} {m : List UInt8 → Option Value}

theorem run_checkKey_str (hK : P.underlying K = some .string) (empty : Bool) (k : List UInt8) (w : World) : (Instr.checkKey empty 10000 K (.string (strB k))).run P w = .ok () w := by
  have : (10000 : Nat) = 9999 + 1 := rfl
  rw [this, Instr.checkKey]
  simp [Sem.run_bind, run_underlying hK, Result.andThen]

theorem run_findKey_str (hK : P.underlying K = some .string) {es : List MapEntry} (hi : ∀ e ∈ es, ∃ k, e.key = .string (strB k)) (k : List UInt8) (w : World) :
    ∃ r, (Instr.findKey K (.string (strB k)) es).run P w = .ok r w ∧ r.map (·.2) = getE es k ∧ ∀ p, r = some p → p.1 < es.length ∧ ∃ e, es[p.1]? = some e ∧ e.key = .string (strB k) := by
  obtain ⟨r, h1, h2, h3⟩ := findNow_str hi k 0
  refine ⟨r, ?_, h2, fun p h => ?_⟩
  · simp [Instr.findKey, Sem.run_bind, run_underlying hK, Result.andThen, h1]
  · have := h3 p h; simpa using this

/-- A lookup. -/
theorem run_lookup_str (h : StrMap w b m) (hT : P.underlying T = some (.map K E)) (hK : P.underlying K = some .string) {z : Value} (hz : ∀ w, (zeroValue E).run P w = .ok z w) (k : List UInt8) :
    (Instr.lookup T (.map (some b)) (.string (strB k)) false).run P w = .ok ((m k).getD z) w := by
  obtain ⟨es, clk, hb, hg, hm⟩ := h
  obtain ⟨r, h1, h2, _⟩ := run_findKey_str (P := P) hK hg.int k w
  rw [hm] at h2
  unfold Instr.lookup
  simp only [Sem.run_bind, run_underlying hT, Result.andThen_ok, getObj, Sem.run, hb, Sem.run_pure, run_checkKey_str hK, h1]
  cases r with
  | none => simp [← h2, hz]
  | some p => simp [← h2]

theorem run_lookup_nilS (hT : P.underlying T = some (.map K E)) (hK : P.underlying K = some .string) {z : Value} (hz : ∀ w, (zeroValue E).run P w = .ok z w) (k : List UInt8) :
    (Instr.lookup T (.map none) (.string (strB k)) false).run P w = .ok z w := by
  unfold Instr.lookup
  simp only [Sem.run_bind, run_underlying hT, Result.andThen_ok, Sem.run_pure, run_checkKey_str hK]
  simp [Instr.findKey, run_underlying hK, Result.andThen, Instr.findNow, hz]

def updS (m : List UInt8 → Option Value) (k : List UInt8) (v : Value) : List UInt8 → Option Value := fun j => if j = k then some v else m j

theorem getE_none {es : List MapEntry} {k : List UInt8} (h : getE es k = none) : k ∉ keysOf es := by
  induction es with
  | nil => simp [keysOf]
  | cons e r ih =>
    unfold getE at h
    split at h
    · cases h
    · rename_i hne
      unfold keysOf
      rw [List.filterMap_cons]
      cases hk : keyS e with
      | none => exact ih h
      | some j =>
        simp only [List.mem_cons, not_or]
        exact ⟨fun e' => hne (by rw [hk, e']), ih h⟩

theorem getE_append (es : List MapEntry) (k j : List UInt8) (v : Value) (c : Nat) : getE (es ++ [{ key := .string (strB k), val := v, born := c }]) j = match getE es j with | some u => some u | none => if k = j then some v else none := by
  induction es with
  | nil => simp [getE, keyS, strB]
  | cons e r ih =>
    simp only [List.cons_append, getE]
    split
    · rfl
    · exact ih

theorem keysOf_set {es : List MapEntry} {i : Nat} {e e' : MapEntry} (h : es[i]? = some e) (hk : keyS e' = keyS e) : keysOf (es.set i e') = keysOf es := by
  induction es generalizing i with
  | nil => simp at h
  | cons x r ih =>
    cases i with
    | zero => simp at h; subst h; simp [keysOf, List.filterMap_cons, hk]
    | succ i => simp at h; simp only [List.set_cons_succ, keysOf, List.filterMap_cons]; have := ih h; unfold keysOf at this; rw [this]

theorem getE_set {es : List MapEntry} (hn : (keysOf es).Nodup) {i : Nat} {e e' : MapEntry} {k : List UInt8} {v : Value} (h : es[i]? = some e) (hk : keyS e = some k) (hk' : keyS e' = some k) (hv : e'.val = v) (j : List UInt8) :
    getE (es.set i e') j = if j = k then some v else getE es j := by
  induction es generalizing i with
  | nil => simp at h
  | cons x r ih =>
    have hn' : (keysOf r).Nodup := by
      simp only [keysOf, List.filterMap_cons] at hn
      split at hn
      · exact hn
      · exact (List.nodup_cons.1 hn).2
    cases i with
    | zero =>
      simp at h; subst h
      simp only [List.set_cons_zero, getE, hk', hk, hv]
      by_cases hjk : j = k
      · simp [hjk]
      · simp [hjk, Ne.symm hjk]
    | succ i =>
      simp at h
      have hmem : k ∈ keysOf r := by
        simp only [keysOf, List.mem_filterMap]; exact ⟨e, List.mem_of_getElem? h, hk⟩
      simp only [List.set_cons_succ, getE, ih hn' h]
      split
      · rename_i hq
        have : j ≠ k := fun ejk => by
          simp only [keysOf, List.filterMap_cons, hq] at hn
          exact (List.nodup_cons.1 hn).1 (by rw [ejk]; exact hmem)
        simp [this]
      · rfl

theorem modify_toList (es : Array MapEntry) (i : Nat) (e : MapEntry) (f : MapEntry → MapEntry) (h : es[i]? = some e) : (es.modify i f).toList = es.toList.set i (f e) := by
  apply List.ext_getElem?
  intro n
  rw [List.getElem?_set, Array.getElem?_toList, Array.getElem?_modify]
  split
  · rename_i hn; subst hn; obtain ⟨hlt, he⟩ := Array.getElem?_eq_some_iff.1 h; simp [hlt, he]
  · simp

/-- A store. -/
theorem run_mapUpdate_str (h : StrMap w b m) (hT : P.underlying T = some (.map K E)) (hK : P.underlying K = some .string) (k : List UInt8) (v : Value) :
    ∃ w', (Instr.mapUpdate T (.map (some b)) (.string (strB k)) v).run P w = .ok () w' ∧ Touch (fun x => x = b) w w' ∧ StrMap w' b (updS m k v) ∧ w'.heap.size = w.heap.size := by
  obtain ⟨es, clk, hb, hg, hm⟩ := h
  obtain ⟨r, h1, h2, h3⟩ := run_findKey_str (P := P) hK hg.int k w
  rw [hm] at h2
  unfold Instr.mapUpdate
  simp only [Sem.run_bind, run_underlying hT, Result.andThen_ok, getObj, Sem.run, hb, Sem.run_pure, run_checkKey_str hK, h1]
  cases r with
  | none =>
    have hmk : m k = none := by simpa using h2.symm
    refine ⟨w.putObj b (.map (es.push { key := .string (strB k), val := v, born := clk }) (clk + 1)), ?_, (Touch.refl _ _).putObj (.inl (by exact rfl)) _, ⟨_, _, putObj_self hb, ?_, ?_⟩, by simp⟩
    · simp [setObj, Sem.run, hb, World.putObj]
    · refine ⟨?_, ?_, ?_, ?_⟩
      · intro e he
        rw [Array.toList_push] at he
        rcases List.mem_append.1 he with he | he
        · exact hg.int e he
        · cases List.mem_singleton.1 he; exact ⟨k, rfl⟩
      · have := getE_none ((hm k).trans hmk)
        simp only [Array.toList_push, keysOf, List.filterMap_append, List.filterMap_cons, List.filterMap_nil, keyS]
        rw [List.nodup_append]
        refine ⟨hg.keys, by simp, fun a ha c hc => ?_⟩
        simp only [List.mem_singleton] at hc
        subst hc; exact fun e => this (by rw [← e]; exact ha)
      · simp only [Array.toList_push, List.map_append, List.map_cons, List.map_nil]
        rw [List.nodup_append]
        refine ⟨hg.born, by simp, fun a ha c hc => ?_⟩
        simp only [List.mem_singleton] at hc
        obtain ⟨e, he, rfl⟩ := List.mem_map.1 ha
        have := hg.clock e he
        omega
      · intro e he
        simp only [Array.toList_push, List.mem_append, List.mem_singleton] at he
        rcases he with he | rfl
        · have := hg.clock e he; omega
        · simp
    · intro j
      rw [Array.toList_push, getE_append, hm]
      unfold updS
      by_cases hjk : j = k
      · subst hjk; simp [hmk]
      · simp only [hjk, Ne.symm hjk, if_false]
        cases m j <;> rfl
  | some p =>
    obtain ⟨i, u⟩ := p
    obtain ⟨hlt, e, he, hke⟩ := h3 _ rfl
    have hlt' : i < es.size := by simpa using hlt
    have he' : es[i]? = some e := by simpa using he
    have hkt : (Instr.keyThatStays (((es[i]?).map (·.key)).getD (.string (strB k))) (.string (strB k))).run P w = .ok (.string (strB k)) w := by
      simp only [he', Option.map_some, Option.getD_some, hke, Instr.keyThatStays]
      simp [Instr.sameBits, strB_eqb]
    refine ⟨w.putObj b (.map (es.modify i fun e => { e with key := .string (strB k), val := v }) clk), ?_, (Touch.refl _ _).putObj (.inl (by exact rfl)) _, ⟨_, _, putObj_self hb, ?_, ?_⟩, by simp⟩
    · simp only [Sem.run_bind, hkt, Result.andThen_ok]
      simp [setObj, Sem.run, hb, World.putObj]
    · rw [modify_toList es i e _ he']
      refine ⟨?_, ?_, ?_, ?_⟩
      · intro e' h'
        rcases List.mem_or_eq_of_mem_set h' with h' | rfl
        · exact hg.int e' h'
        · exact ⟨k, rfl⟩
      · rw [keysOf_set he (by simp [keyS, hke])]; exact hg.keys
      · rw [List.map_set]
        have : (es.toList.map (·.born)).set i e.born = es.toList.map (·.born) := by
          apply List.ext_getElem?
          intro n
          rw [List.getElem?_set]
          split
          · rename_i h; subst h; simp [he']; omega
          · rfl
        simp only [this]; exact hg.born
      · intro e' h'
        rcases List.mem_or_eq_of_mem_set h' with h' | rfl
        · exact hg.clock e' h'
        · exact hg.clock e (List.mem_of_getElem? he)
    · intro j
      rw [modify_toList es i e _ he', getE_set hg.keys he (keyS_of hke) rfl rfl, hm]
      rfl
end
theorem wpList_mapUpdate {P : Program} {w w' : World} {a : Act} {o : Oper} {ops : Array Oper} {rest : List Oper} {Q : Exit → Act → World → Prop} {t : TypeId} {x y z : Operand} {m k u : Value} (hg : o.guard = none) (ho : o.op = .mapUpdate t x y z) (hx : a.eval x = m) (hy : a.eval y = k) (hz : a.eval z = u)
    (hr : (Instr.mapUpdate t m k u).run P w = .ok () w') (h : wpList P ops Q rest (a.put o.dst undef) w') : wpList P ops Q (o :: rest) a w :=
  wpList_plain hg fun K hK => by unfold Oper.wp; rw [exec_mapUpdate ho hx hy hz hr]; exact hK _ _ h
end Go.Proofs.YtnkaegdnjfpliaaGreatDoor

/-! value.Once. -/
namespace Go.Proofs.YtnkaegdnjfpliaaGreatDoor
set_option linter.unusedSimpArgs false
set_option linter.unusedVariables false
open Go.RowKit

/-! ### Each once, by its text -/
def stepO (out : List V) (v : V) : List V := if textV v ∈ out.map textV then out else out ++ [v]
def onceL (l : List V) : List V := l.foldl stepO []
theorem onceL_snoc (l : List V) (v : V) : onceL (l ++ [v]) = stepO (onceL l) v := by unfold onceL; rw [List.foldl_append]; rfl
theorem fold_mem (t : List UInt8) : ∀ (l out : List V), t ∈ (l.foldl stepO out).map textV ↔ t ∈ out.map textV ∨ t ∈ l.map textV := by
  intro l
  induction l with
  | nil => intro out; simp
  | cons a r ih =>
    intro out
    rw [List.foldl_cons, ih]
    unfold stepO
    by_cases h : textV a ∈ out.map textV
    · rw [if_pos h, List.map_cons, List.mem_cons]
      constructor
      · rintro (h1 | h1)
        · exact .inl h1
        · exact .inr (.inr h1)
      · rintro (h1 | h1 | h1)
        · exact .inl h1
        · exact .inl (h1 ▸ h)
        · exact .inr h1
    · rw [if_neg h, List.map_append, List.mem_append, List.map_cons, List.map_nil, List.mem_singleton, List.map_cons, List.mem_cons]
      constructor
      · rintro ((h1 | h1) | h1)
        · exact .inl h1
        · exact .inr (.inl h1)
        · exact .inr (.inr h1)
      · rintro (h1 | h1 | h1)
        · exact .inl (.inl h1)
        · exact .inl (.inr h1)
        · exact .inr h1
theorem once_mem (l : List V) (t : List UInt8) : t ∈ (onceL l).map textV ↔ t ∈ l.map textV := by
  unfold onceL; rw [fold_mem]; simp
theorem once_length (l : List V) : (onceL l).length ≤ l.length := by
  have : ∀ (l out : List V), (l.foldl stepO out).length ≤ out.length + l.length := by
    intro l
    induction l with
    | nil => intro out; simp
    | cons a r ih =>
      intro out
      rw [List.foldl_cons]
      have h1 := ih (stepO out a)
      have h2 : (stepO out a).length ≤ out.length + 1 := by unfold stepO; split <;> simp
      simp only [List.length_cons]
      omega
  have := this l []
  simpa [onceL] using this
/-- How often a text was met. -/
def metN (l : List V) (t : List UInt8) : Nat := (l.map textV).count t
def metM (l : List V) : List UInt8 → Option Value := fun t => if metN l t = 0 then none else some (.int .i64 (metN l t : Int))
theorem metN_le (l : List V) (t : List UInt8) : metN l t ≤ l.length := by unfold metN; have := List.count_le_length (a := t) (l := l.map textV); simpa using this
theorem metN_zero (l : List V) (t : List UInt8) : metN l t = 0 ↔ t ∉ (onceL l).map textV := by
  rw [once_mem]; unfold metN; exact List.count_eq_zero
theorem metN_snoc (l : List V) (v : V) (t : List UInt8) : metN (l ++ [v]) t = metN l t + if t = textV v then 1 else 0 := by
  unfold metN
  rw [List.map_append, List.count_append, List.map_cons, List.map_nil, List.count_cons, List.count_nil]
  by_cases h : t = textV v
  · subst h; simp
  · have : (textV v == t) = false := by rw [beq_eq_false_iff_ne]; exact fun e => h e.symm
    simp [h, this]
theorem metM_snoc (l : List V) (v : V) : updS (metM l) (textV v) (.int .i64 ((metN l (textV v) : Int) + 1)) = metM (l ++ [v]) := by
  funext t
  unfold updS metM
  rw [metN_snoc]
  by_cases h : t = textV v
  · subst h; simp
  · simp [h]
theorem metM_get (l : List V) (t : List UInt8) : (metM l t).getD (.int .i64 0) = .int .i64 (metN l t : Int) := by
  unfold metM
  by_cases h : metN l t = 0
  · rw [if_pos h, h]; rfl
  · rw [if_neg h]; rfl
/-! ### What lies so far -/
/-- The first blocks of a world. -/
def Cut (W : World) (n : Nat) : World := { W with heap := W.heap.extract 0 n }
theorem Cut.size {W : World} {n : Nat} (h : n ≤ W.heap.size) : (Cut W n).heap.size = n := by simp [Cut]; omega
theorem Cut.below {W : World} {n : Nat} (h : n ≤ W.heap.size) : Below (Cut W n).heap.size (Cut W n) W := by
  refine ⟨rfl, rfl, rfl, by rw [Cut.size h]; exact h, fun b hb => ?_⟩
  rw [Cut.size h] at hb
  show W.heap[b]? = (W.heap.extract 0 n)[b]?
  rw [Array.getElem?_extract, if_pos (by omega), Nat.zero_add]
theorem CInv.recut {W W' : World} {n : Nat} {ov : Value} {m : List V} (hn : n ≤ W.heap.size) (h : CInv (Cut W n) W ov m) (hs : W.heap.size ≤ W'.heap.size) (hk : ∀ b, n ≤ b → b < W.heap.size → W'.heap[b]? = W.heap[b]?) : CInv (Cut W' n) W' ov m := by
  obtain ⟨xs, h1, h2, _⟩ := h
  rw [Cut.size hn] at h1 h2
  have e : (Cut W' n).heap.size = n := Cut.size (by omega)
  refine ⟨xs, ?_, ?_, Cut.below (by omega)⟩
  · rw [e]; exact h1.keep fun b hb hl => hk b hb hl
  · rw [e]; exact h2.keep fun b hb hl => hk b hb.1 hl
structure OInv (w : World) (mb : Nat) (W : World) (o : Value) (m : List V) : Prop where
  le : w.heap.size ≤ mb
  lt : mb < W.heap.size
  out : CInv (Cut W (mb + 1)) W o (onceL m)
  met : StrMap W mb (metM m)
  below : Below w.heap.size w W
theorem OInv.keep {w W W' : World} {mb : Nat} {o : Value} {m : List V} (h : OInv w mb W o m) (g : Below W.heap.size W W') : OInv w mb W' o m :=
  ⟨h.le, by have := h.lt; have := g.size; omega, h.out.recut h.lt g.size fun b _ hb => g.block b hb, h.met.grow g, below_trans h.below g⟩
theorem OInv.start {w w1 : World} (hb : Below w.heap.size w w1) : OInv w w1.heap.size (w1.alloc (.map #[] 0)) (.slice none 0 0) [] :=
  ⟨hb.size, by simp, CInv.start (Cut.below (by simp)), by
    have := StrMap.made w1
    exact this, below_trans hb (below_new _)⟩
theorem OInv.next {w w3 W2 : World} {mb : Nat} {o : Value} {m m' : List V} (hle : w.heap.size ≤ mb) (hlt : mb < w3.heap.size) (hc : CInv (Cut w3 (mb + 1)) W2 o m') (hm : StrMap w3 mb (metM m)) (hb : Below w.heap.size w w3) (e : onceL m = m') : OInv w mb W2 o m := by
  subst e
  obtain ⟨xs, h1, h2, h3⟩ := hc
  have hs : (Cut w3 (mb + 1)).heap.size = mb + 1 := Cut.size hlt
  rw [hs] at h1 h2 h3
  have hsz : mb + 1 ≤ W2.heap.size := by have := h3.size; rw [hs] at this; exact this
  have hcut : ∀ b, b < mb + 1 → W2.heap[b]? = w3.heap[b]? := fun b hb => by
    rw [h3.block b hb]
    show (w3.heap.extract 0 (mb + 1))[b]? = _
    rw [Array.getElem?_extract, if_pos (by omega), Nat.zero_add]
  refine ⟨hle, hsz, ⟨xs, ?_, ?_, Cut.below hsz⟩, hm.of_heap (hcut mb (by omega)), ⟨h3.os.trans hb.os, h3.tape.trans hb.tape, h3.output.trans hb.output, by omega, fun b hlt => (hcut b (by omega)).trans (hb.block b hlt)⟩⟩
  · rw [Cut.size hsz]; exact h1
  · rw [Cut.size hsz]; exact h2
set_option maxRecDepth 100000 in
set_option maxHeartbeats 4000000 in
theorem once_any {w : World} {p : Option Addr} {c : Nat} {l : List V} (hE : Env w) (hl : LRd w p c l) (hr : ∀ v ∈ l, rngV v) (ht : totVs l ≤ 1000000) :
    Calls Tryz.prog 49 #[.slice p l.length c] w fun e w' => ∃ vl, e = .returned vl ∧ LOwn w' (fun b => w.heap.size ≤ b) vl (if fineL l then onceL l else []) ∧ Below w.heap.size w w' := by
  have HF := Lib.hid (fine_any hE hl (by omega))
  have hlen := totVs_length l
  have z1 : (l.length : Int) ≤ 1000000 := by omega
  cases hf : fineL l with
  | false =>
    rw [hf] at HF
    clear hE hl hr ht hlen
    go_enter Tryz.func49, Tryz.ntmps49
    go_wp2_with (go_at_call 62; refine HF.out.mono ?_; rintro e w1 ⟨rfl, hb⟩; have HB := Lib.hid hb; clear hb)
    go_ret
    exact ⟨_, rfl, ⟨[], ⟨⟨rfl, .inl ⟨rfl, rfl⟩⟩, fun g hg => by simp [Value.ownBlock] at hg⟩, rfl⟩, HB.out⟩
  | true =>
    rw [hf] at HF
    have hmay := fineL_may hf
    have HV := Lib.hid (And.intro hl (And.intro hE (fun (v : V) (hv : v ∈ l) (W : World) (x : Array Value) => And.intro (tell_any v (hmay v hv) (hr v hv) (by have := totVs_mem hv; omega) W x) (And.intro (copy_any v (by have := totVs_mem hv; omega) W x) (text_len v (hr v hv))))))
    have HN := Lib.hid (show l.length ≤ 1000000 by omega)
    clear hE hl hr ht hlen hmay
    have hmm := @run_makeMap Tryz.prog
    go_enter Tryz.func49, Tryz.ntmps49
    go_wp2_with (go_at_call 62; refine HF.out.mono ?_; rintro e w1 ⟨rfl, hb⟩; have HS := Lib.hid (OInv.start hb); clear hb)
    go_loopw [4, 14] (fun o i W => ∃ j : Nat, j ≤ l.length ∧ i = .int .i64 (j : Int) ∧ Hid (OInv w w1.heap.size W o (l.take j))) (fun _ i _ => l.length - (intOf i).toNat)
    case atStart => exact ⟨0, Nat.zero_le _, rfl, HS⟩
    case round =>
      clear HS
      obtain ⟨j, hj, rfl, HJ⟩ := hrel
      by_cases hlt : j < l.length
      · have hlt1 : j + 1 ≤ l.length := hlt
        obtain ⟨g1, o1, pk1, ck1, pl1, cl1, rfl, ⟨b0, b1, b2, b3, b4, b5⟩, hv1⟩ := HV.out.1.at hlt
        have a0 := belowCell HJ.out.below (ltOf b0) b0
        have a1 := belowCell HJ.out.below (ltOf b1) b1
        have a2 := belowCell HJ.out.below (ltOf b2) b2
        have a3 := belowCell HJ.out.below (ltOf b3) b3
        have a4 := belowCell HJ.out.below (ltOf b4) b4
        have a5 := belowCell HJ.out.below (ltOf b5) b5
        clear b0 b1 b2 b3 b4 b5
        have hcall := HV.out.2.2 l[j] (List.getElem_mem hlt)
        have htk : l.take (j + 1) = l.take j ++ [l[j]] := List.take_succ_eq_append_getElem hlt
        have hml := metN_le (l.take j) (textV l[j])
        have hml2 : (l.take j).length ≤ 1000000 := by rw [List.length_take]; have := HN.out; omega
        have hz := metN_zero (l.take j) (textV l[j])
        have hol : (onceL (l.take j)).length ≤ 1000000 := by have := once_length (l.take j); omega
        generalize l[j] = s1 at *
        have HD := Lib.hid (And.intro htk (And.intro hcall (And.intro hv1 (And.intro HV.out.2.1 hol))))
        have zs : (strB (textV s1)).size = (textV s1).length := rfl
        clear hcall hv1 htk zs
        by_cases hc : metN (l.take j) (textV s1) = 0
        · have hst : onceL (l.take j ++ [s1]) = onceL (l.take j) ++ [s1] := by rw [onceL_snoc]; unfold stepO; rw [if_neg (hz.1 hc)]
          have HC := Lib.hid (And.intro hc hst)
          clear hc hst hz hml hml2 hol
          go_wp2_with (first
            | (go_at_call 67
               (
                 refine ((HD.out.2.1 _ _).1 (HD.out.2.2.2.1.b (below_trans HJ.out.below (below_new _))) (HD.out.2.2.1.below (below_trans HJ.out.below (below_new _)))).mono ?_
                 rintro e w2 ⟨rfl, hb⟩
                 have hb2 := below_trans (below_new _) hb
                 have hI := HJ.out.keep hb2
                 have hbox := belowBlk hb (by simp) (heap_alloc_new wr (.cells #[.int .i64 s1.kind, .bool s1.b, .int .i64 s1.n, .string (strB s1.text), .slice pk1 s1.keys.length ck1, .slice pl1 s1.list.length cl1] 26))
                 have hlk := run_lookup_str (P := Tryz.prog) (T := 98) hI.met Tryz.underlying98 Tryz.underlying9 (fun w => Tryz.zeroValue3 w) (textV s1)
                 rw [metM_get, HC.out.1] at hlk
                 obtain ⟨w3, hup, hT3, hM3, hz3⟩ := run_mapUpdate_str (P := Tryz.prog) (T := 98) hI.met Tryz.underlying98 Tryz.underlying9 (textV s1) (.int .i64 1)
                 have hM4 : StrMap w3 w1.heap.size (metM (l.take j ++ [s1])) := by
                   have := metM_snoc (l.take j) s1
                   rw [HC.out.1] at this
                   rw [← this]; exact hM3
                 have hlk2 := run_lookup_str (P := Tryz.prog) (T := 98) hM4 Tryz.underlying98 Tryz.underlying9 (fun w => Tryz.zeroValue3 w) (textV s1)
                 rw [metM_get, metN_snoc, HC.out.1] at hlk2
                 rw [if_pos rfl] at hlk2
                 have hne : wr.heap.size ≠ w1.heap.size := fun e => by have := HJ.out.lt; omega
                 have hbox3 := hT3.heap hbox hne
                 have hout := hI.out.recut hI.lt (by omega : w2.heap.size ≤ w3.heap.size) fun b h1 h2 => hT3.block b h2 (by omega)
                 have hb3 : Below w.heap.size w w3 := hT3.below hI.below (fun b h1 h2 => by have := hI.le; omega) hI.below.size
                 have H1 := Lib.hid hlk
                 have H2 := Lib.hid hup
                 have H3 := Lib.hid hlk2
                 have H4 := Lib.hid (get_val hbox3)
                 have HI := Lib.hid (And.intro hout (And.intro hM4 (And.intro hb3 (And.intro hI.le (show w1.heap.size < w3.heap.size by have := hI.lt; omega)))))
                 clear hb hb2 hI hbox hlk hup hT3 hM3 hz3 hM4 hlk2 hne hbox3 hout hb3))
            | (refine wpList_run rfl (exec_lookup rfl rfl rfl H1.out) ?_; simp only [Act.put, List.setIfInBounds_toArray, List.set_cons_zero, List.set_cons_succ])
            | (refine wpList_mapUpdate rfl rfl rfl rfl rfl H2.out ?_)
            | (refine wpList_run rfl (exec_lookup rfl rfl rfl H3.out) ?_; simp only [Act.put, List.setIfInBounds_toArray, List.set_cons_zero, List.set_cons_succ])
            | (refine wpList_load rfl _ _ _ rfl rfl H4.out ?_)
            | (go_at_call 51
               (
                 refine ((HD.out.2.1 _ _).2.1 (HD.out.2.2.1.below HI.out.2.2.1)).mono ?_
                 rintro e w4 ⟨x, rfl, hx, hb⟩
                 obtain ⟨v', W2, ha, hO⟩ := HI.out.1.step (Nat.le_refl _) hb hx HD.out.2.2.2.2 24
                 obtain ⟨vk, vl, rfl, _⟩ := hx.open
                 have Ha := Lib.hid ha
                 have HO := Lib.hid hO
                 clear ha hO hx hb))
            | (refine wpList_append rfl rfl rfl rfl Ha.out ?_))
          go_roundw
          case rel => exact ⟨j + 1, hlt1, by go_num, Lib.hid (OInv.next HI.out.2.2.2.1 HI.out.2.2.2.2 HO.out (by rw [HD.out.1]; exact HI.out.2.1) HI.out.2.2.1 (by rw [HD.out.1]; exact HC.out.2))⟩
          case measure => simp [intOf]; omega
        · have hst : onceL (l.take j ++ [s1]) = onceL (l.take j) := by
            rw [onceL_snoc]; unfold stepO
            by_cases hin : textV s1 ∈ (onceL (l.take j)).map textV
            · rw [if_pos hin]
            · exact absurd (hz.2 hin) hc
          have HC := Lib.hid hst
          generalize hcn : metN (l.take j) (textV s1) = cn at *
          have hN : (cn : Int) + 1 ≤ 1000001 := by omega
          have hq : ((cn : Int) + 1 == 1) = false := by rw [beq_eq_false_iff_ne]; omega
          have hq2 : ¬ (cn : Int) = 0 := by omega
          have HCN := Lib.hid hcn
          clear hcn hst hz hml hml2 hol
          go_wp2_with (first
            | (go_at_call 67
               (
                 refine ((HD.out.2.1 _ _).1 (HD.out.2.2.2.1.b (below_trans HJ.out.below (below_new _))) (HD.out.2.2.1.below (below_trans HJ.out.below (below_new _)))).mono ?_
                 rintro e w2 ⟨rfl, hb⟩
                 have hb2 := below_trans (below_new _) hb
                 have hI := HJ.out.keep hb2
                 have hlk := run_lookup_str (P := Tryz.prog) (T := 98) hI.met Tryz.underlying98 Tryz.underlying9 (fun w => Tryz.zeroValue3 w) (textV s1)
                 rw [metM_get, HCN.out] at hlk
                 obtain ⟨w3, hup, hT3, hM3, hz3⟩ := run_mapUpdate_str (P := Tryz.prog) (T := 98) hI.met Tryz.underlying98 Tryz.underlying9 (textV s1) (.int .i64 ((cn : Int) + 1))
                 have hM4 : StrMap w3 w1.heap.size (metM (l.take j ++ [s1])) := by
                   have := metM_snoc (l.take j) s1
                   rw [HCN.out] at this
                   rw [← this]; exact hM3
                 have hlk2 := run_lookup_str (P := Tryz.prog) (T := 98) hM4 Tryz.underlying98 Tryz.underlying9 (fun w => Tryz.zeroValue3 w) (textV s1)
                 rw [metM_get, metN_snoc, HCN.out, if_pos rfl] at hlk2
                 have hout := hI.out.recut hI.lt (by omega : w2.heap.size ≤ w3.heap.size) fun b h1 h2 => hT3.block b h2 (by omega)
                 have hb3 : Below w.heap.size w w3 := hT3.below hI.below (fun b h1 h2 => by have := hI.le; omega) hI.below.size
                 have hlk3 : (Instr.lookup 98 (.map (some w1.heap.size)) (.string (strB (textV s1))) false).run Tryz.prog w3 = .ok (.int .i64 ((cn : Int) + 1)) w3 := by
                   rw [hlk2]; simp
                 have H1 := Lib.hid hlk
                 have H2 := Lib.hid hup
                 have H3 := Lib.hid hlk3
                 have HI := Lib.hid (And.intro hout (And.intro hM4 (And.intro hb3 (And.intro hI.le (show w1.heap.size < w3.heap.size by have := hI.lt; omega)))))
                 clear hb hb2 hI hlk hup hT3 hM3 hz3 hM4 hlk2 hlk3 hout hb3))
            | (refine wpList_run rfl (exec_lookup rfl rfl rfl H1.out) ?_; simp only [Act.put, List.setIfInBounds_toArray, List.set_cons_zero, List.set_cons_succ])
            | (refine wpList_mapUpdate rfl rfl rfl rfl rfl H2.out ?_)
            | (refine wpList_run rfl (exec_lookup rfl rfl rfl H3.out) ?_; simp only [Act.put, List.setIfInBounds_toArray, List.set_cons_zero, List.set_cons_succ]))
          go_roundw
          case rel => exact ⟨j + 1, hlt1, by go_num, Lib.hid (by rw [HD.out.1]; exact ⟨HI.out.2.2.2.1, HI.out.2.2.2.2, by rw [HC.out]; exact HI.out.1, HI.out.2.1, HI.out.2.2.1⟩)⟩
          case measure => simp [intOf]; omega
      · obtain rfl : j = l.length := by omega
        go_wp2
        go_ret
        have h := HJ.out
        rw [List.take_length] at h
        refine ⟨_, rfl, ?_, h.below⟩
        have := h.out.own
        rw [Cut.size h.lt] at this
        exact this.imp fun b _ hb => by have := h.le; omega
end Go.Proofs.YtnkaegdnjfpliaaGreatDoor

/-! value.Once, its copies apart. Printed by gen_onced.py. -/
namespace Go.Proofs.YtnkaegdnjfpliaaGreatDoor
set_option linter.unusedSimpArgs false
set_option linter.unusedVariables false
open Go.RowKit

theorem CInvD.recut {W W' : World} {n : Nat} {ov : Value} {m : List V} (hn : n ≤ W.heap.size) (h : CInvD (Cut W n) W ov m) (hs : W.heap.size ≤ W'.heap.size) (hk : ∀ b, n ≤ b → b < W.heap.size → W'.heap[b]? = W.heap[b]?) : CInvD (Cut W' n) W' ov m := by
  obtain ⟨xs, h1, h2, _⟩ := h
  rw [Cut.size hn] at h1 h2
  have e : (Cut W' n).heap.size = n := Cut.size (by omega)
  refine ⟨xs, ?_, ?_, Cut.below (by omega)⟩
  · rw [e]; exact h1.keep fun b hb hl => hk b hb hl
  · rw [e]; exact h2.keep fun b hb hl => hk b hb.1 hl
structure OInvD (w : World) (mb : Nat) (W : World) (o : Value) (m : List V) : Prop where
  le : w.heap.size ≤ mb
  lt : mb < W.heap.size
  out : CInvD (Cut W (mb + 1)) W o (onceL m)
  met : StrMap W mb (metM m)
  below : Below w.heap.size w W
theorem OInvD.keep {w W W' : World} {mb : Nat} {o : Value} {m : List V} (h : OInvD w mb W o m) (g : Below W.heap.size W W') : OInvD w mb W' o m :=
  ⟨h.le, by have := h.lt; have := g.size; omega, h.out.recut h.lt g.size fun b _ hb => g.block b hb, h.met.grow g, below_trans h.below g⟩
theorem OInvD.start {w w1 : World} (hb : Below w.heap.size w w1) : OInvD w w1.heap.size (w1.alloc (.map #[] 0)) (.slice none 0 0) [] :=
  ⟨hb.size, by simp, CInvD.start (Cut.below (by simp)), by
    have := StrMap.made w1
    exact this, below_trans hb (below_new _)⟩
theorem OInvD.next {w w3 W2 : World} {mb : Nat} {o : Value} {m m' : List V} (hle : w.heap.size ≤ mb) (hlt : mb < w3.heap.size) (hc : CInvD (Cut w3 (mb + 1)) W2 o m') (hm : StrMap w3 mb (metM m)) (hb : Below w.heap.size w w3) (e : onceL m = m') : OInvD w mb W2 o m := by
  subst e
  obtain ⟨xs, h1, h2, h3⟩ := hc
  have hs : (Cut w3 (mb + 1)).heap.size = mb + 1 := Cut.size hlt
  rw [hs] at h1 h2 h3
  have hsz : mb + 1 ≤ W2.heap.size := by have := h3.size; rw [hs] at this; exact this
  have hcut : ∀ b, b < mb + 1 → W2.heap[b]? = w3.heap[b]? := fun b hb => by
    rw [h3.block b hb]
    show (w3.heap.extract 0 (mb + 1))[b]? = _
    rw [Array.getElem?_extract, if_pos (by omega), Nat.zero_add]
  refine ⟨hle, hsz, ⟨xs, ?_, ?_, Cut.below hsz⟩, hm.of_heap (hcut mb (by omega)), ⟨h3.os.trans hb.os, h3.tape.trans hb.tape, h3.output.trans hb.output, by omega, fun b hlt => (hcut b (by omega)).trans (hb.block b hlt)⟩⟩
  · rw [Cut.size hsz]; exact h1
  · rw [Cut.size hsz]; exact h2
set_option maxRecDepth 100000 in
set_option maxHeartbeats 4000000 in
theorem onceD_any {w : World} {p : Option Addr} {c : Nat} {l : List V} (hE : Env w) (hl : LRd w p c l) (hr : ∀ v ∈ l, rngV v) (ht : totVs l ≤ 1000000) :
    Calls Tryz.prog 49 #[.slice p l.length c] w fun e w' => ∃ vl, e = .returned vl ∧ LOwnD w' (fun b => w.heap.size ≤ b) vl (if fineL l then onceL l else []) ∧ Below w.heap.size w w' := by
  have HF := Lib.hid (fine_any hE hl (by omega))
  have hlen := totVs_length l
  have z1 : (l.length : Int) ≤ 1000000 := by omega
  cases hf : fineL l with
  | false =>
    rw [hf] at HF
    clear hE hl hr ht hlen
    go_enter Tryz.func49, Tryz.ntmps49
    go_wp2_with (go_at_call 62; refine HF.out.mono ?_; rintro e w1 ⟨rfl, hb⟩; have HB := Lib.hid hb; clear hb)
    go_ret
    exact ⟨_, rfl, LOwnD.nil _ _, HB.out⟩
  | true =>
    rw [hf] at HF
    have hmay := fineL_may hf
    have HV := Lib.hid (And.intro hl (And.intro hE (fun (v : V) (hv : v ∈ l) (W : World) (x : Array Value) => And.intro (tell_any v (hmay v hv) (hr v hv) (by have := totVs_mem hv; omega) W x) (And.intro (copy_any v (by have := totVs_mem hv; omega) W x) (text_len v (hr v hv))))))
    have HN := Lib.hid (show l.length ≤ 1000000 by omega)
    clear hE hl hr ht hlen hmay
    have hmm := @run_makeMap Tryz.prog
    go_enter Tryz.func49, Tryz.ntmps49
    go_wp2_with (go_at_call 62; refine HF.out.mono ?_; rintro e w1 ⟨rfl, hb⟩; have HS := Lib.hid (OInvD.start hb); clear hb)
    go_loopw [4, 14] (fun o i W => ∃ j : Nat, j ≤ l.length ∧ i = .int .i64 (j : Int) ∧ Hid (OInvD w w1.heap.size W o (l.take j))) (fun _ i _ => l.length - (intOf i).toNat)
    case atStart => exact ⟨0, Nat.zero_le _, rfl, HS⟩
    case round =>
      clear HS
      obtain ⟨j, hj, rfl, HJ⟩ := hrel
      by_cases hlt : j < l.length
      · have hlt1 : j + 1 ≤ l.length := hlt
        obtain ⟨g1, o1, pk1, ck1, pl1, cl1, rfl, ⟨b0, b1, b2, b3, b4, b5⟩, hv1⟩ := HV.out.1.at hlt
        have a0 := belowCell HJ.out.below (ltOf b0) b0
        have a1 := belowCell HJ.out.below (ltOf b1) b1
        have a2 := belowCell HJ.out.below (ltOf b2) b2
        have a3 := belowCell HJ.out.below (ltOf b3) b3
        have a4 := belowCell HJ.out.below (ltOf b4) b4
        have a5 := belowCell HJ.out.below (ltOf b5) b5
        clear b0 b1 b2 b3 b4 b5
        have hcall := HV.out.2.2 l[j] (List.getElem_mem hlt)
        have htk : l.take (j + 1) = l.take j ++ [l[j]] := List.take_succ_eq_append_getElem hlt
        have hml := metN_le (l.take j) (textV l[j])
        have hml2 : (l.take j).length ≤ 1000000 := by rw [List.length_take]; have := HN.out; omega
        have hz := metN_zero (l.take j) (textV l[j])
        have hol : (onceL (l.take j)).length ≤ 1000000 := by have := once_length (l.take j); omega
        generalize l[j] = s1 at *
        have HD := Lib.hid (And.intro htk (And.intro hcall (And.intro hv1 (And.intro HV.out.2.1 hol))))
        have zs : (strB (textV s1)).size = (textV s1).length := rfl
        clear hcall hv1 htk zs
        by_cases hc : metN (l.take j) (textV s1) = 0
        · have hst : onceL (l.take j ++ [s1]) = onceL (l.take j) ++ [s1] := by rw [onceL_snoc]; unfold stepO; rw [if_neg (hz.1 hc)]
          have HC := Lib.hid (And.intro hc hst)
          clear hc hst hz hml hml2 hol
          go_wp2_with (first
            | (go_at_call 67
               (
                 refine ((HD.out.2.1 _ _).1 (HD.out.2.2.2.1.b (below_trans HJ.out.below (below_new _))) (HD.out.2.2.1.below (below_trans HJ.out.below (below_new _)))).mono ?_
                 rintro e w2 ⟨rfl, hb⟩
                 have hb2 := below_trans (below_new _) hb
                 have hI := HJ.out.keep hb2
                 have hbox := belowBlk hb (by simp) (heap_alloc_new wr (.cells #[.int .i64 s1.kind, .bool s1.b, .int .i64 s1.n, .string (strB s1.text), .slice pk1 s1.keys.length ck1, .slice pl1 s1.list.length cl1] 26))
                 have hlk := run_lookup_str (P := Tryz.prog) (T := 98) hI.met Tryz.underlying98 Tryz.underlying9 (fun w => Tryz.zeroValue3 w) (textV s1)
                 rw [metM_get, HC.out.1] at hlk
                 obtain ⟨w3, hup, hT3, hM3, hz3⟩ := run_mapUpdate_str (P := Tryz.prog) (T := 98) hI.met Tryz.underlying98 Tryz.underlying9 (textV s1) (.int .i64 1)
                 have hM4 : StrMap w3 w1.heap.size (metM (l.take j ++ [s1])) := by
                   have := metM_snoc (l.take j) s1
                   rw [HC.out.1] at this
                   rw [← this]; exact hM3
                 have hlk2 := run_lookup_str (P := Tryz.prog) (T := 98) hM4 Tryz.underlying98 Tryz.underlying9 (fun w => Tryz.zeroValue3 w) (textV s1)
                 rw [metM_get, metN_snoc, HC.out.1] at hlk2
                 rw [if_pos rfl] at hlk2
                 have hne : wr.heap.size ≠ w1.heap.size := fun e => by have := HJ.out.lt; omega
                 have hbox3 := hT3.heap hbox hne
                 have hout := hI.out.recut hI.lt (by omega : w2.heap.size ≤ w3.heap.size) fun b h1 h2 => hT3.block b h2 (by omega)
                 have hb3 : Below w.heap.size w w3 := hT3.below hI.below (fun b h1 h2 => by have := hI.le; omega) hI.below.size
                 have H1 := Lib.hid hlk
                 have H2 := Lib.hid hup
                 have H3 := Lib.hid hlk2
                 have H4 := Lib.hid (get_val hbox3)
                 have HI := Lib.hid (And.intro hout (And.intro hM4 (And.intro hb3 (And.intro hI.le (show w1.heap.size < w3.heap.size by have := hI.lt; omega)))))
                 clear hb hb2 hI hbox hlk hup hT3 hM3 hz3 hM4 hlk2 hne hbox3 hout hb3))
            | (refine wpList_run rfl (exec_lookup rfl rfl rfl H1.out) ?_; simp only [Act.put, List.setIfInBounds_toArray, List.set_cons_zero, List.set_cons_succ])
            | (refine wpList_mapUpdate rfl rfl rfl rfl rfl H2.out ?_)
            | (refine wpList_run rfl (exec_lookup rfl rfl rfl H3.out) ?_; simp only [Act.put, List.setIfInBounds_toArray, List.set_cons_zero, List.set_cons_succ])
            | (refine wpList_load rfl _ _ _ rfl rfl H4.out ?_)
            | (go_at_call 51
               (
                 refine ((HD.out.2.1 _ _).2.1 (HD.out.2.2.1.below HI.out.2.2.1)).mono ?_
                 rintro e w4 ⟨x, rfl, hx, hb⟩
                 obtain ⟨v', W2, ha, hO⟩ := HI.out.1.step (Nat.le_refl _) hb hx HD.out.2.2.2.2 24
                 obtain ⟨vk, vl, rfl, _⟩ := hx.open
                 have Ha := Lib.hid ha
                 have HO := Lib.hid hO
                 clear ha hO hx hb))
            | (refine wpList_append rfl rfl rfl rfl Ha.out ?_))
          go_roundw
          case rel => exact ⟨j + 1, hlt1, by go_num, Lib.hid (OInvD.next HI.out.2.2.2.1 HI.out.2.2.2.2 HO.out (by rw [HD.out.1]; exact HI.out.2.1) HI.out.2.2.1 (by rw [HD.out.1]; exact HC.out.2))⟩
          case measure => simp [intOf]; omega
        · have hst : onceL (l.take j ++ [s1]) = onceL (l.take j) := by
            rw [onceL_snoc]; unfold stepO
            by_cases hin : textV s1 ∈ (onceL (l.take j)).map textV
            · rw [if_pos hin]
            · exact absurd (hz.2 hin) hc
          have HC := Lib.hid hst
          generalize hcn : metN (l.take j) (textV s1) = cn at *
          have hN : (cn : Int) + 1 ≤ 1000001 := by omega
          have hq : ((cn : Int) + 1 == 1) = false := by rw [beq_eq_false_iff_ne]; omega
          have hq2 : ¬ (cn : Int) = 0 := by omega
          have HCN := Lib.hid hcn
          clear hcn hst hz hml hml2 hol
          go_wp2_with (first
            | (go_at_call 67
               (
                 refine ((HD.out.2.1 _ _).1 (HD.out.2.2.2.1.b (below_trans HJ.out.below (below_new _))) (HD.out.2.2.1.below (below_trans HJ.out.below (below_new _)))).mono ?_
                 rintro e w2 ⟨rfl, hb⟩
                 have hb2 := below_trans (below_new _) hb
                 have hI := HJ.out.keep hb2
                 have hlk := run_lookup_str (P := Tryz.prog) (T := 98) hI.met Tryz.underlying98 Tryz.underlying9 (fun w => Tryz.zeroValue3 w) (textV s1)
                 rw [metM_get, HCN.out] at hlk
                 obtain ⟨w3, hup, hT3, hM3, hz3⟩ := run_mapUpdate_str (P := Tryz.prog) (T := 98) hI.met Tryz.underlying98 Tryz.underlying9 (textV s1) (.int .i64 ((cn : Int) + 1))
                 have hM4 : StrMap w3 w1.heap.size (metM (l.take j ++ [s1])) := by
                   have := metM_snoc (l.take j) s1
                   rw [HCN.out] at this
                   rw [← this]; exact hM3
                 have hlk2 := run_lookup_str (P := Tryz.prog) (T := 98) hM4 Tryz.underlying98 Tryz.underlying9 (fun w => Tryz.zeroValue3 w) (textV s1)
                 rw [metM_get, metN_snoc, HCN.out, if_pos rfl] at hlk2
                 have hout := hI.out.recut hI.lt (by omega : w2.heap.size ≤ w3.heap.size) fun b h1 h2 => hT3.block b h2 (by omega)
                 have hb3 : Below w.heap.size w w3 := hT3.below hI.below (fun b h1 h2 => by have := hI.le; omega) hI.below.size
                 have hlk3 : (Instr.lookup 98 (.map (some w1.heap.size)) (.string (strB (textV s1))) false).run Tryz.prog w3 = .ok (.int .i64 ((cn : Int) + 1)) w3 := by
                   rw [hlk2]; simp
                 have H1 := Lib.hid hlk
                 have H2 := Lib.hid hup
                 have H3 := Lib.hid hlk3
                 have HI := Lib.hid (And.intro hout (And.intro hM4 (And.intro hb3 (And.intro hI.le (show w1.heap.size < w3.heap.size by have := hI.lt; omega)))))
                 clear hb hb2 hI hlk hup hT3 hM3 hz3 hM4 hlk2 hlk3 hout hb3))
            | (refine wpList_run rfl (exec_lookup rfl rfl rfl H1.out) ?_; simp only [Act.put, List.setIfInBounds_toArray, List.set_cons_zero, List.set_cons_succ])
            | (refine wpList_mapUpdate rfl rfl rfl rfl rfl H2.out ?_)
            | (refine wpList_run rfl (exec_lookup rfl rfl rfl H3.out) ?_; simp only [Act.put, List.setIfInBounds_toArray, List.set_cons_zero, List.set_cons_succ]))
          go_roundw
          case rel => exact ⟨j + 1, hlt1, by go_num, Lib.hid (by rw [HD.out.1]; exact ⟨HI.out.2.2.2.1, HI.out.2.2.2.2, by rw [HC.out]; exact HI.out.1, HI.out.2.1, HI.out.2.2.1⟩)⟩
          case measure => simp [intOf]; omega
      · obtain rfl : j = l.length := by omega
        go_wp2
        go_ret
        have h := HJ.out
        rw [List.take_length] at h
        refine ⟨_, rfl, ?_, h.below⟩
        have := h.out.own
        rw [Cut.size h.lt] at this
        exact this.imp fun b _ hb => by have := h.le; omega
end Go.Proofs.YtnkaegdnjfpliaaGreatDoor

/-! Bytes in memory, and the smallest functions on them. -/
namespace Go.Proofs.YtnkaegdnjfpliaaGreatDoor
set_option linter.unusedSimpArgs false
set_option linter.unusedVariables false
open Go.RowKit

/-- A byte as a value. -/
def Bv (b : UInt8) : Value := .int .u8 (b.toNat : Int)

/-- A value reads as these bytes: a slice of them. -/
def RdB (w : World) (v : Value) (l : List UInt8) : Prop :=
  ∃ a cap, v = .slice a l.length cap ∧ (l.length ≤ cap ∧ cap ≤ maxLen ∧ (a = none → cap = 0)) ∧ (∀ ad, a = some ad → (l ≠ [] → ad.spot = none) ∧ ∀ i b, l[i]? = some b → w.cell? ⟨ad.block, ad.off + i, none⟩ = some (.int .u8 (b.toNat : Int)))

theorem RdB.below {w w' : World} {v : Value} {l : List UInt8} (h : RdB w v l) (hb : Below w.heap.size w w') : RdB w' v l := by
  obtain ⟨a, cap, rfl, h1, h2⟩ := h
  refine ⟨a, cap, rfl, h1, fun ad had => ⟨(h2 ad had).1, fun i b hi => ?_⟩⟩
  have h3 := (h2 ad had).2 i b hi
  exact (hb.cell (p := ⟨ad.block, ad.off + i, none⟩) (World.block_lt_of_cell? w _ h3)).trans h3

theorem RdB.at {w : World} {ad : Addr} {n c : Nat} {l : List UInt8} (h : RdB w (.slice (some ad) n c) l) (i : Nat) (b : UInt8) (hi : l[i]? = some b) : w.cell? (ad.add i) = some (.int .u8 (b.toNat : Int)) := by
  obtain ⟨a', cap, heq, h1, h2⟩ := h
  cases heq
  have hs := (h2 ad rfl).1 (fun e => by rw [e] at hi; simp at hi)
  have hc := (h2 ad rfl).2 i b hi
  obtain ⟨x, o, sp⟩ := ad
  simp only at hs; subst hs
  have ha : (⟨x, o, none⟩ : Addr).add i = ⟨x, o + i, none⟩ := by unfold Addr.add; split <;> simp_all
  rw [ha]; exact hc
/-! Pieces of slices and strings, as run equations. -/
section
variable {P : Program} {t e : TypeId} {s : Nat}
theorem run_slice_gen (ht : P.underlying t = some (.slice e)) (hs : ∀ w, (sizeOf e).run P w = .ok s w) (a : Option Addr) (len cap : Nat) (lo hi : Option Int) (l h : Nat)
    (hlo : ∀ i, lo = some i → i = (l : Int)) (hlo' : lo = none → l = 0) (hhi : ∀ i, hi = some i → i = (h : Int)) (hhi' : hi = none → h = len) (h1 : l ≤ h) (h2 : h ≤ cap) (W : World) :
    (Instr.slice t (.slice a len cap) (lo.map (.int .i64)) (hi.map (.int .i64)) none).run P W = .ok (.slice (if cap = l then a else a.map (·.add (l * s))) (h - l) (cap - l)) W := by
  have hb : (Instr.sliceBounds true len cap (lo.map (.int .i64)) (hi.map (.int .i64)) none).run P W = .ok (l, h, cap) W := by
    have e1 : ∀ (x y : Nat) (code : BoundsCode), x ≤ y → (Instr.sliceBound (.int .i64 (x : Int)) y code).run P W = .ok x W := fun x y code hxy => by
      simp [Instr.sliceBound, asIntOf, Sem.run_bind, hxy]
    cases lo with
    | none =>
      obtain rfl := hlo' rfl
      cases hi with
      | none => obtain rfl := hhi' rfl; simp [Instr.sliceBounds]
      | some i => obtain rfl := hhi i rfl; simp [Instr.sliceBounds, Sem.run_bind, e1 h cap _ h2]
    | some j =>
      obtain rfl := hlo j rfl
      cases hi with
      | none => obtain rfl := hhi' rfl; simp [Instr.sliceBounds, Sem.run_bind, e1 l h _ h1]
      | some i => obtain rfl := hhi i rfl; simp [Instr.sliceBounds, Sem.run_bind, e1 h cap _ h2, e1 l h _ h1]
  simp only [Instr.slice, Sem.run_bind, run_underlying ht, Result.andThen_ok, hb, hs, Sem.run_pure]
theorem run_sliceAt_gen (ht : P.underlying t = some (.slice e)) (x : Value) (lo hi mx : Option Value) (W : World) : (Instr.sliceAt t x lo hi mx).run P W = (Instr.slice t x lo hi mx).run P W := by
  simp [Instr.sliceAt, run_underlying ht]
end

/-- What slices.Backward hands out. -/
def backs (l : List UInt8) (k : Nat) : List (UInt8 × Nat) := (List.range k).map fun j => (l.getD (l.length - 1 - j) 0, l.length - 1 - j)
theorem backs_succ (l : List UInt8) (k : Nat) : backs l (k + 1) = backs l k ++ [(l.getD (l.length - 1 - k) 0, l.length - 1 - k)] := by simp [backs, List.range_succ]

theorem u8_lt (b : UInt8) : (b.toNat : Int) < 256 := by have := b.toNat_lt; omega

attribute [local go_sem] Oper.semAt_some

/-- A number out of bytes, the lowest first. -/
def leNat (l : List UInt8) : Nat := l.foldr (fun b n => b.toNat + 256 * n) 0
theorem leNat_lt (l : List UInt8) : leNat l < 256 ^ l.length := by
  induction l with
  | nil => simp [leNat]
  | cons b l ih =>
    have := b.toNat_lt
    simp only [leNat, List.foldr_cons, List.length_cons, Nat.pow_succ] at *
    omega
theorem leNat_drop (l : List UInt8) (k : Nat) (hk : k < l.length) : leNat (l.drop (l.length - (k + 1))) = (l.getD (l.length - 1 - k) 0).toNat + 256 * leNat (l.drop (l.length - k)) := by
  have h1 : l.length - (k + 1) < l.length := by omega
  rw [List.drop_eq_getElem_cons h1]
  have h2 : l.length - (k + 1) + 1 = l.length - k := by omega
  have h3 : l.length - 1 - k = l.length - (k + 1) := by omega
  simp [leNat, h2, h3, h1]

theorem or_step (A b : Nat) (hA : 256 * A + b < 18446744073709551616) (hb : b < 256) :
    bits .or .u64 (IntKind.u64.wrap ((A : Int) * 256)) (IntKind.u64.wrap (b : Int)) = ((b + 256 * A : Nat) : Int) := by
  have w1 : IntKind.u64.wrap ((A : Int) * 256) = ((A * 256 : Nat) : Int) := by simp [IntKind.wrap, IntKind.signed, IntKind.bits]; omega
  have w2 : IntKind.u64.wrap (b : Int) = (b : Int) := by simp [IntKind.wrap, IntKind.signed, IntKind.bits]; omega
  rw [w1, w2, bits_or_u64_nat _ _ (by omega) (by omega)]
  have h := Nat.two_pow_add_eq_or_of_lt (i := 8) (b := b) (by simpa using hb) A
  have h2 : 2 ^ 8 * A = A * 256 := by omega
  rw [h2] at h
  rw [← h]; congr 1; omega

end Go.Proofs.YtnkaegdnjfpliaaGreatDoor

/-! Rows of one's own whose values lie below, and pieces of them appended to others (the document's Map). -/
namespace Go.Proofs.YtnkaegdnjfpliaaGreatDoor
set_option linter.unusedSimpArgs false
set_option linter.unusedVariables false
open Go.RowKit

/-- A row of one's own from block n0 on, of values that were readable at w. -/
def RowV (w : World) (n0 : Nat) (W : World) (v : Value) (l : List V) : Prop := ∃ xs, OwnsP W (fun b => n0 ≤ b) 26 6 v l.length (xs.flatMap Array.toList) ∧ VRs w l xs
/-- A piece of such a row, or of one that came in. -/
def PieceV (w W : World) (p : Option Addr) (m : List V) : Prop := (p = none → m = []) ∧ ∃ ys, VRs w m ys ∧ ∀ ad, p = some ad → ∀ (j : Nat) (u : Value), (ys.flatMap Array.toList)[j]? = some u → W.cell? (ad.add j) = some u
theorem RowV.start (w : World) (n0 : Nat) (W : World) : RowV w n0 W (.slice none 0 0) [] := ⟨[], ⟨⟨rfl, .inl ⟨rfl, rfl⟩⟩, fun g hg => by simp [Value.ownBlock] at hg⟩, VRs.nil w⟩
theorem RowV.below {w W W' : World} {n0 : Nat} {v : Value} {l : List V} (h : RowV w n0 W v l) (g : Below W.heap.size W W') : RowV w n0 W' v l := by
  obtain ⟨xs, h1, h2⟩ := h
  exact ⟨xs, h1.keep fun b _ hb => g.block b hb, h2⟩
theorem RowV.mono {w W : World} {n0 n1 : Nat} {v : Value} {l : List V} (h : RowV w n0 W v l) (g : n1 ≤ n0) : RowV w n1 W v l := by
  obtain ⟨xs, h1, h2⟩ := h
  exact ⟨xs, h1.imp fun b _ hb => Nat.le_trans g hb, h2⟩
theorem RowV.slice {w W : World} {n0 : Nat} {v : Value} {l : List V} (h : RowV w n0 W v l) : ∃ p c, v = .slice p l.length c := by obtain ⟨_, h, _⟩ := h; exact slices_of h
theorem RowV.rd {w W : World} {n0 : Nat} {v : Value} {l : List V} (h : RowV w n0 W v l) (h0 : w.heap.size ≤ n0) (hb : Below w.heap.size w W) (hn : l.length ≤ 1000000) : ∃ p c, v = .slice p l.length c ∧ LRd W p c l := by
  obtain ⟨xs, h1, h2⟩ := h
  exact AInv.rd (w := w) ⟨xs, h1.imp fun b _ hb => Nat.le_trans h0 hb, h2, hb⟩ hn
theorem VRs.six6 {w : World} {l : List V} {xs : List (Array Value)} (h : VRs w l xs) : ∀ x ∈ xs, x.size = 6 := fun x hx => by obtain ⟨v, hv⟩ := h.six x hx; exact hv.size6
/-- A piece is appended. -/
theorem RowV.step {w W : World} {n0 : Nat} {v : Value} {l m : List V} {p : Option Addr} {c : Nat} (h : RowV w n0 W v l) (hm : PieceV w W p m) (h0 : n0 ≤ W.heap.size) (hn : l.length + m.length ≤ 1000000) (hc : p = none → c = 0) (ty : TypeId) :
    ∃ v' W', (Builtin.append_ #[24, 24] ty #[v, .slice p m.length c]).run Tryz.prog W = .ok v' W' ∧ RowV w n0 W' v' (l ++ m) ∧ Below n0 W W' := by
  obtain ⟨xs, h1, h2⟩ := h
  obtain ⟨i, i1, i2, i3, i4⟩ := info_val
  obtain ⟨hnil, ys, hy, hcell⟩ := hm
  have hy6 := hy.six6
  cases p with
  | none =>
    have hl := hnil rfl
    subst hl
    have hc0 := hc rfl
    subst hc0
    refine ⟨v, W, append_law_nil (P := Tryz.prog) (w := W) 24 ty 26 i 6 Tryz.underlying24 i1 i3 v l.length _ h1.1, ?_, Below.refl _ _⟩
    rw [List.append_nil]
    exact ⟨xs, h1, h2⟩
  | some ad =>
    obtain ⟨v', W2, a1, a2, a3, a4, a5⟩ := append_law (P := Tryz.prog) (w := W) 24 ty 26 i _ 6 88 Tryz.underlying24 i1 i2 i3 i4 rfl v l.length _ h1.1 ad m.length c (ys.flatMap Array.toList)
      (by rw [flatA_len hy6, hy.1]) (fun j u hu => hcell ad rfl j u hu) (fun u hu => by
        obtain ⟨x, hx, hu⟩ := List.mem_flatMap.1 hu
        obtain ⟨v, hv⟩ := hy.six x hx
        exact hv.ones u hu) (by unfold maxLen; omega) (by omega)
    refine ⟨v', W2, a1, ⟨xs ++ ys, ⟨?_, fun g hg => ?_⟩, h2.append hy⟩, a3.toBelow h0 (fun b hb e => by have := h1.2 b e; omega)⟩
    · rw [List.flatMap_append, List.length_append]; exact a2
    · rcases a4 with e | e
      · exact h1.2 g (e.symm.trans hg)
      · rw [e] at hg; cases hg; exact h0
/-- One value out of a box. -/
theorem PieceV.one {w W : World} {v : V} {x : Array Value} {g : Nat} (hv : VRd w v x) (hg : W.heap[g]? = some (.cells x 26 (0, 0))) : PieceV w W (some ⟨g, 0, none⟩) [v] := by
  refine ⟨(fun h => by cases h), [x], ⟨rfl, fun j u hu => ?_⟩, fun ad had j u hu => ?_⟩
  · cases j with
    | zero => obtain rfl : v = u := by simpa using hu
              exact ⟨x, rfl, hv⟩
    | succ j => simp at hu
  · cases had
    rw [addr_add, Nat.zero_add]
    exact cellOf (o := j) hg (by simpa using hu)
theorem flat_take {xs : List (Array Value)} (h6 : ∀ x ∈ xs, x.size = 6) (m : Nat) : (xs.take m).flatMap Array.toList = (xs.flatMap Array.toList).take (m * 6) := by
  induction xs generalizing m with
  | nil => simp
  | cons a r ih =>
    cases m with
    | zero => simp
    | succ m =>
      have ha := h6 a (by simp)
      rw [List.take_succ_cons, List.flatMap_cons, List.flatMap_cons, ih (fun x hx => h6 x (by simp [hx])), List.take_append]
      have hl : a.toList.length = 6 := by simpa using ha
      rw [hl, List.take_of_length_le (l := a.toList) (by omega), show (m + 1) * 6 - 6 = m * 6 by omega]
theorem flat_drop {xs : List (Array Value)} (h6 : ∀ x ∈ xs, x.size = 6) (m : Nat) : (xs.drop m).flatMap Array.toList = (xs.flatMap Array.toList).drop (m * 6) := by
  induction xs generalizing m with
  | nil => simp
  | cons a r ih =>
    cases m with
    | zero => simp
    | succ m =>
      have ha := h6 a (by simp)
      rw [List.drop_succ_cons, List.flatMap_cons, ih (fun x hx => h6 x (by simp [hx])), List.drop_append]
      have hl : a.toList.length = 6 := by simpa using ha
      rw [hl, List.drop_of_length_le (l := a.toList) (by omega), show (m + 1) * 6 - 6 = m * 6 by omega, List.nil_append]
theorem VRs.take {w : World} {l : List V} {xs : List (Array Value)} (h : VRs w l xs) (m : Nat) : VRs w (l.take m) (xs.take m) := by
  refine ⟨by simp [h.1], fun j v hv => ?_⟩
  rw [List.getElem?_take] at hv ⊢
  by_cases hj : j < m
  · rw [if_pos hj] at hv ⊢; exact h.2 j v hv
  · rw [if_neg hj] at hv; cases hv
theorem VRs.drop {w : World} {l : List V} {xs : List (Array Value)} (h : VRs w l xs) (m : Nat) : VRs w (l.drop m) (xs.drop m) := by
  refine ⟨by simp [h.1], fun j v hv => ?_⟩
  rw [List.getElem?_drop] at hv ⊢
  exact h.2 _ v hv
/-- The first m values of such a row. -/
theorem RowV.low {w W : World} {n0 : Nat} {v : Value} {l : List V} (h : RowV w n0 W v l) {m : Nat} (hm : m ≤ l.length) : ∃ p c, (∀ W, (Instr.slice 24 v none (some (.int .i64 (m : Int))) none).run Tryz.prog W = .ok (.slice p m c) W) ∧ PieceV w W p (l.take m) ∧ (p = none → c = 0) := by
  obtain ⟨xs, h1, h2⟩ := h
  have h6 := h2.six6
  rcases h1.1.2 with ⟨rfl, h0⟩ | ⟨g, cap, cur, rfl, _, hg, hnc, hcm, _⟩
  · obtain rfl : m = 0 := by omega
    have e : l = [] := List.eq_nil_of_length_eq_zero h0
    subst e
    exact ⟨none, 0, fun W => by simp [go_sem], ⟨fun _ => rfl, [], VRs.nil w, fun ad h => by cases h⟩, fun _ => rfl⟩
  · have hc := fun j u => h1.1.cells (g := g) rfl j u
    refine ⟨some ⟨g, 0, none⟩, cap, fun W => ?_, ⟨(fun h => by cases h), xs.take m, h2.take m, fun ad had j u hu => ?_⟩, (fun h => by cases h)⟩
    · have h1 : (m : Int) ≤ cap := by omega
      simp [go_sem, h1, addr_add]
    · cases had
      rw [flat_take h6, List.getElem?_take] at hu
      by_cases hj : j < m * 6
      · rw [if_pos hj] at hu
        have := hc j u hu
        simpa [addr_add] using this
      · rw [if_neg hj] at hu; cases hu
/-- The values from place m on. -/
theorem RowV.high {w W : World} {n0 : Nat} {v : Value} {l : List V} (h : RowV w n0 W v l) {m : Nat} (hm : m ≤ l.length) : ∃ p c, (∀ W, (Instr.slice 24 v (some (.int .i64 (m : Int))) none none).run Tryz.prog W = .ok (.slice p (l.length - m) c) W) ∧ PieceV w W p (l.drop m) ∧ (p = none → c = 0) := by
  obtain ⟨xs, h1, h2⟩ := h
  have h6 := h2.six6
  rcases h1.1.2 with ⟨rfl, h0⟩ | ⟨g, cap, cur, rfl, _, hg, hnc, hcm, _⟩
  · obtain rfl : m = 0 := by omega
    have e : l = [] := List.eq_nil_of_length_eq_zero h0
    subst e
    exact ⟨none, 0, fun W => by simp [go_sem], ⟨fun _ => rfl, [], VRs.nil w, fun ad h => by cases h⟩, fun _ => rfl⟩
  · have hc := fun j u => h1.1.cells (g := g) rfl j u
    refine ⟨_, _, fun W => run_slice_gen (s := 6) Tryz.underlying24 (fun w => by simp [go_sem]) (some ⟨g, 0, none⟩) l.length cap (some (m : Int)) none m l.length (fun i h => by cases h; rfl) (fun h => by cases h) (fun i h => by cases h) (fun _ => rfl) hm hnc W, ?_, ?_⟩
    · refine ⟨fun h => ?_, xs.drop m, h2.drop m, fun ad had j u hu => ?_⟩
      · split at h <;> cases h
      · rw [flat_drop h6, List.getElem?_drop] at hu
        have := hc _ u hu
        have hne : ¬ cap = m := by
          intro e
          have hlen := (List.getElem?_eq_some_iff.1 hu).1
          rw [flatA_len h6, h2.1] at hlen
          omega
        rw [if_neg hne] at had
        cases had
        simpa [addr_add] using this
    · intro h; split at h <;> cases h
/-- The first m keys of a row of one's own. -/
theorem keys_low {W : World} {P : Nat → Prop} {v : Value} {l : List (List UInt8)} (h : OwnsP W P 9 1 v l.length (l.map strV)) (h1 : l.length ≤ 140737488355328) (h2 : ∀ s ∈ l, s.length ≤ 140737488355328) {m : Nat} (hm : m ≤ l.length) : ∃ p c, (∀ W, (Instr.slice 23 v none (some (.int .i64 (m : Int))) none).run Tryz.prog W = .ok (.slice p (l.take m).length c) W) ∧ RdS W p c (l.take m) := by
  have hlt : (l.take m).length = m := by simp; omega
  rcases h.1.2 with ⟨rfl, h0⟩ | ⟨g, cap, cur, rfl, _, hg, hnc, hcm, _⟩
  · obtain rfl : m = 0 := by omega
    exact ⟨none, 0, fun W => by simp [go_sem], by simp, by simp, fun _ => rfl, by simp, fun ad h => by cases h⟩
  · have hc := fun j u => h.1.cells (g := g) rfl j u
    unfold maxLen at hcm
    refine ⟨some ⟨g, 0, none⟩, cap, fun W => ?_, by omega, by omega, (fun h => by cases h), fun s hs => h2 s (List.mem_of_mem_take hs), fun ad had => ?_⟩
    · rw [hlt]
      have h1 : (m : Int) ≤ cap := by omega
      simp [go_sem, h1, addr_add]
    · cases had
      refine ⟨fun _ => rfl, fun i s hs => ?_⟩
      rw [List.getElem?_take] at hs
      by_cases hi : i < m
      · rw [if_pos hi] at hs
        have := hc i (strV s) (by simp [hs])
        rw [addr_add] at this
        simpa [strV] using this
      · rw [if_neg hi] at hs; cases hs
/-- The keys from place m on. -/
theorem keys_high {W : World} {P : Nat → Prop} {v : Value} {l : List (List UInt8)} (h : OwnsP W P 9 1 v l.length (l.map strV)) (h1 : l.length ≤ 140737488355328) (h2 : ∀ s ∈ l, s.length ≤ 140737488355328) {m : Nat} (hm : m ≤ l.length) : ∃ p c, (∀ W, (Instr.slice 23 v (some (.int .i64 (m : Int))) none none).run Tryz.prog W = .ok (.slice p (l.drop m).length c) W) ∧ RdS W p c (l.drop m) := by
  have hlt : (l.drop m).length = l.length - m := by simp
  rcases h.1.2 with ⟨rfl, h0⟩ | ⟨g, cap, cur, rfl, _, hg, hnc, hcm, _⟩
  · obtain rfl : m = 0 := by omega
    have e : l = [] := List.eq_nil_of_length_eq_zero h0
    subst e
    exact ⟨none, 0, fun W => by simp [go_sem], by simp, by simp, fun _ => rfl, by simp, fun ad h => by cases h⟩
  · have hc := fun j u => h.1.cells (g := g) rfl j u
    unfold maxLen at hcm
    refine ⟨_, _, fun W => (run_slice_gen (s := 1) Tryz.underlying23 (fun w => by simp [go_sem]) (some ⟨g, 0, none⟩) l.length cap (some (m : Int)) none m l.length (fun i h => by cases h; rfl) (fun h => by cases h) (fun i h => by cases h) (fun _ => rfl) hm hnc W).trans (by rw [hlt]), by omega, by omega, (fun h => by split at h <;> cases h), fun s hs => h2 s (List.mem_of_mem_drop hs), fun ad had => ?_⟩
    refine ⟨fun hne => ?_, fun i s hs => ?_⟩
    · split at had
      · cases had; rfl
      · cases had
        show ((⟨g, 0, none⟩ : Addr).add (m * 1)).spot = none
        rw [addr_add]
    · rw [List.getElem?_drop] at hs
      have hlen := (List.getElem?_eq_some_iff.1 hs).1
      rw [if_neg (by omega)] at had
      cases had
      have := hc (m + i) (strV s) (by simp [hs])
      rw [addr_add] at this
      simpa [strV, addr_add] using this
/-- A piece of keys is appended. -/
theorem keys_step {W : World} {n0 : Nat} {v : Value} {l m : List (List UInt8)} {p : Option Addr} {c : Nat} (h : OwnsP W (fun b => n0 ≤ b) 9 1 v l.length (l.map strV)) (hm : RdS W p c m) (hn : l.length + m.length ≤ 1000000) (h0 : n0 ≤ W.heap.size) (ty : TypeId) :
    ∃ v' W', (Builtin.append_ #[23, 23] ty #[v, .slice p m.length c]).run Tryz.prog W = .ok v' W' ∧ OwnsP W' (fun b => n0 ≤ b) 9 1 v' (l ++ m).length ((l ++ m).map strV) ∧ Below n0 W W' := by
  obtain ⟨v', W', a1, a2, a3, a4, a5⟩ := append_keys (w := W) h hm hn h0 ty
  exact ⟨v', W', a1, a2, a3.toBelow h0 (fun b hb e => by have := h.2 b e; omega)⟩
theorem keys_nil (W : World) (P : Nat → Prop) : OwnsP W P 9 1 (.slice none 0 0) ([] : List (List UInt8)).length (([] : List (List UInt8)).map strV) := ⟨⟨rfl, .inl ⟨rfl, rfl⟩⟩, fun g hg => by simp [Value.ownBlock] at hg⟩
end Go.Proofs.YtnkaegdnjfpliaaGreatDoor

/-! Values in order, plain: one order, counts, each once. -/
namespace Go.Proofs.YtnkaegdnjfpliaaGreatDoor
set_option linter.unusedSimpArgs false
set_option linter.unusedVariables false
open Go.RowKit

/-- Two rising orders of the same values are one. -/
theorem sorted_one {u : List UInt8 → Bool} : ∀ {p q : List V}, p.Perm q → p.Pairwise (fun a b => cmpV a b ≤ 0) → q.Pairwise (fun a b => cmpV a b ≤ 0) → (∀ v ∈ p, mayV u v = true) → p = q
  | [], q, h, _, _, _ => (List.nil_perm.1 h).symm
  | a :: p, [], h, _, _, _ => by have := h.length_eq; simp at this
  | a :: p, b :: q, h, h1, h2, hm => by
    rw [List.pairwise_cons] at h1 h2
    have hab : a = b := by
      by_cases e : a = b
      · exact e
      · have ha : a ∈ q := by
          rcases List.mem_cons.1 (h.mem_iff.1 (List.mem_cons_self (a := a) (l := p))) with c | c
          · exact absurd c e
          · exact c
        have hb : b ∈ p := by
          rcases List.mem_cons.1 (h.mem_iff.2 (List.mem_cons_self (a := b) (l := q))) with c | c
          · exact absurd c.symm e
          · exact c
        have k1 := h1.1 b hb
        have k2 := h2.1 a ha
        have k3 := (ord_cmpV a).anti b
        exact cmpV_zero a (hm a (by simp)) b (hm b (by simp [hb])) (by omega)
    subst hab
    rw [sorted_one (List.Perm.cons_inv h) h1.2 h2.2 fun v hv => hm v (by simp [hv])]
/-- How many stand at one place with a value. -/
def cntV (x : V) (m : List V) : Nat := m.countP fun v => decide (cmpV v x = 0)
theorem cntV_le (x : V) (m : List V) : cntV x m ≤ m.length := List.countP_le_length
theorem cntV_take (x : V) (m : List V) {q : Nat} (hq : q < m.length) : cntV x (m.take (q + 1)) = cntV x (m.take q) + if decide (cmpV m[q] x = 0) = true then 1 else 0 := by
  unfold cntV
  rw [List.take_succ_eq_append_getElem hq, List.countP_append]
  simp [List.countP_cons]
theorem cntV_perm (x : V) {m n : List V} (h : m.Perm n) : cntV x m = cntV x n := h.countP_eq _
theorem cntV_pos {x : V} {m : List V} (h : x ∈ m) : 0 < cntV x m := by
  unfold cntV
  exact List.countP_pos_iff.2 ⟨x, h, by simp [(ord_cmpV x).self]⟩
theorem once_nodup (l : List V) : ((onceL l).map textV).Nodup := by
  have : ∀ (l out : List V), (out.map textV).Nodup → ((l.foldl stepO out).map textV).Nodup := by
    intro l
    induction l with
    | nil => intro out h; exact h
    | cons a r ih =>
      intro out h
      rw [List.foldl_cons]
      refine ih _ ?_
      unfold stepO
      by_cases e : textV a ∈ out.map textV
      · rw [if_pos e]; exact h
      · rw [if_neg e, List.map_append, List.nodup_append]
        refine ⟨h, by simp, fun x hx y hy e2 => ?_⟩
        have : y = textV a := by simpa using hy
        exact e (by rw [← this, ← e2]; exact hx)
  exact this l [] (by simp)
theorem nodup_le {α : Type} [DecidableEq α] : ∀ {a b : List α}, a.Nodup → (∀ x ∈ a, x ∈ b) → a.length ≤ b.length
  | [], b, _, _ => Nat.zero_le _
  | x :: r, b, hn, hs => by
    rw [List.nodup_cons] at hn
    have hx := hs x (by simp)
    have h := nodup_le (a := r) (b := b.erase x) hn.2 fun y hy => (List.mem_erase_of_ne (fun e => hn.1 (by rw [← e]; exact hy))).2 (hs y (by simp [hy]))
    rw [List.length_erase_of_mem hx] at h
    have := List.length_pos_of_mem hx
    simp only [List.length_cons]; omega
theorem once_perm {l m : List V} (h : l.Perm m) : (onceL l).length = (onceL m).length := by
  have h1 : ∀ t, t ∈ (onceL l).map textV ↔ t ∈ (onceL m).map textV := fun t => by
    rw [once_mem, once_mem]; exact (h.map textV).mem_iff
  have a := nodup_le (once_nodup l) fun t ht => (h1 t).1 ht
  have b := nodup_le (once_nodup m) fun t ht => (h1 t).2 ht
  simp only [List.length_map] at a b
  omega
theorem totVs_perm {l m : List V} (h : l.Perm m) : totVs l = totVs m := by
  induction h with
  | nil => rfl
  | cons x _ ih => rw [totVs_cons, totVs_cons, ih]
  | swap x y l => rw [totVs_cons, totVs_cons, totVs_cons, totVs_cons]; omega
  | trans _ _ a b => exact a.trans b
theorem fineL_perm {l m : List V} (h : l.Perm m) : fineL l = fineL m := by
  have e : ∀ {l m : List V}, l.Perm m → fineL l = true → fineL m = true := fun h g => by
    unfold fineL at *
    exact List.all_eq_true.2 fun x hx => List.all_eq_true.1 g x (h.mem_iff.2 hx)
  cases a : fineL l with
  | true => exact (e h a).symm
  | false =>
    cases b : fineL m with
    | true => rw [e h.symm b] at a; cases a
    | false => rfl
/-- Six cells are loaded as a value. -/
theorem load_six {W : World} {g o : Nat} {x : Array Value} (h : Six W g o x) : (loadVar 26 ⟨g, o, none⟩).run Tryz.prog W = .ok (.agg x) W := by
  obtain ⟨c0, c1, c2, c3, c4, c5, rfl, h0, h1, h2, h3, h4, h5⟩ := h
  exact get_six h0 h1 h2 h3 h4 h5
/-- Two elements of rows, while other memory is laid. -/
structure TwoE (W0 : World) (g1 o1 : Nat) (x1 : Array Value) (g2 o2 : Nat) (x2 : Array Value) (W : World) : Prop where
  one : Six W g1 o1 x1
  two : Six W g2 o2 x2
  b : Below W0.heap.size W0 W
theorem TwoE.keep {W0 W W' : World} {g1 o1 g2 o2 : Nat} {x1 x2 : Array Value} (h : TwoE W0 g1 o1 x1 g2 o2 x2 W) (g : Below W.heap.size W W') : TwoE W0 g1 o1 x1 g2 o2 x2 W' := ⟨h.one.below g, h.two.below g, below_trans h.b g⟩
theorem TwoE.start {W : World} {g1 o1 g2 o2 : Nat} {x1 x2 : Array Value} (h1 : Six W g1 o1 x1) (h2 : Six W g2 o2 x2) : TwoE W g1 o1 x1 g2 o2 x2 W.drew := ⟨h1.below (Below.refl _ _).drew, h2.below (Below.refl _ _).drew, (Below.refl _ _).drew⟩
end Go.Proofs.YtnkaegdnjfpliaaGreatDoor

/-! Values that may be and have one text are the same. Plain. -/
namespace Go.Proofs.YtnkaegdnjfpliaaGreatDoor
set_option linter.unusedSimpArgs false
set_option linter.unusedVariables false
open Go

/-! ### Numbers -/
def decVal (l : List UInt8) : Nat := l.foldl (fun a c => 10 * a + (c.toNat - 48)) 0
theorem decVal_snoc (l : List UInt8) (c : UInt8) : decVal (l ++ [c]) = 10 * decVal l + (c.toNat - 48) := by simp [decVal]
theorem decVal_digits : ∀ u : Nat, decVal (Lib.decDigits u) = u := by
  intro u
  induction u using Nat.strongRecOn with
  | _ u ih =>
    rw [Lib.decDigits]
    split
    · rename_i h
      simp only [decVal, List.foldl_cons, List.foldl_nil, UInt8.toNat_ofNat']
      omega
    · rename_i h
      rw [decVal_snoc, ih (u / 10) (by omega), UInt8.toNat_ofNat']
      omega
theorem digits_are : ∀ u : Nat, ∀ c ∈ Lib.decDigits u, 48 ≤ c.toNat ∧ c.toNat ≤ 57 := by
  intro u
  induction u using Nat.strongRecOn with
  | _ u ih =>
    rw [Lib.decDigits]
    split
    · rename_i h
      intro c hc
      simp only [List.mem_singleton] at hc
      subst hc
      rw [UInt8.toNat_ofNat']; omega
    · rename_i h
      intro c hc
      rcases List.mem_append.1 hc with hc | hc
      · exact ih (u / 10) (by omega) c hc
      · simp only [List.mem_singleton] at hc
        subst hc
        rw [UInt8.toNat_ofNat']; omega
theorem digits_ne (u : Nat) : Lib.decDigits u ≠ [] := by
  rw [Lib.decDigits]; split <;> simp
/-- What a number's text is of. -/
def numC (c : UInt8) : Bool := c == 45 || digitB c
theorem itoa_are (n : Int) : ∀ c ∈ Lib.itoa n, numC c = true := by
  intro c hc
  unfold Lib.itoa at hc
  unfold numC digitB
  split at hc
  · rcases List.mem_cons.1 hc with rfl | hc
    · rfl
    · have := digits_are _ c hc
      simp [this]
  · have := digits_are _ c hc
    simp [this]
theorem itoa_head (n : Int) : ∃ c r, Lib.itoa n = c :: r ∧ numC c = true := by
  cases h : Lib.itoa n with
  | nil =>
    exfalso
    unfold Lib.itoa at h
    split at h
    · cases h
    · exact digits_ne _ h
  | cons c r => exact ⟨c, r, rfl, itoa_are n c (by rw [h]; simp)⟩
theorem itoa_inj {n m : Int} (h : Lib.itoa n = Lib.itoa m) : n = m := by
  unfold Lib.itoa at h
  split at h <;> split at h
  · have := congrArg decVal (List.cons.inj h).2
    rw [decVal_digits, decVal_digits] at this
    omega
  · exfalso
    have := digits_are m.toNat 45 (by rw [← h]; simp)
    revert this; decide
  · exfalso
    have := digits_are n.toNat 45 (by rw [h]; simp)
    revert this; decide
  · have := congrArg decVal h
    rw [decVal_digits, decVal_digits] at this
    omega
/-- The begin of bytes that is of some. -/
theorem takeWhile_all {P : UInt8 → Bool} {l x : List UInt8} (hl : ∀ c ∈ l, P c = true) (hx : ∀ c r, x = c :: r → P c = false) : (l ++ x).takeWhile P = l := by
  induction l with
  | nil =>
    cases x with
    | nil => rfl
    | cons c r => simp [List.takeWhile, hx c r rfl]
  | cons a l ih =>
    simp only [List.cons_append, List.takeWhile_cons, hl a (by simp), if_true]
    rw [ih fun c hc => hl c (by simp [hc])]
theorem split_all {P : UInt8 → Bool} {l m x y : List UInt8} (hl : ∀ c ∈ l, P c = true) (hm : ∀ c ∈ m, P c = true) (hx : ∀ c r, x = c :: r → P c = false) (hy : ∀ c r, y = c :: r → P c = false) (h : l ++ x = m ++ y) : l = m ∧ x = y := by
  have e : l = m := by
    have := congrArg (List.takeWhile P) h
    rwa [takeWhile_all hl hx, takeWhile_all hm hy] at this
  subst e
  exact ⟨rfl, List.append_cancel_left h⟩
/-- What may stand behind a value's text. -/
def Ends (x : List UInt8) : Prop := ∀ c r, x = c :: r → c = 44 ∨ c = 93 ∨ c = 125 ∨ c = 62
theorem Ends.num {x : List UInt8} (h : Ends x) : ∀ c r, x = c :: r → numC c = false := by
  intro c r e
  rcases h c r e with rfl | rfl | rfl | rfl <;> rfl
theorem itoa_split {n m : Int} {x y : List UInt8} (hx : Ends x) (hy : Ends y) (h : Lib.itoa n ++ x = Lib.itoa m ++ y) : n = m ∧ x = y := by
  obtain ⟨h1, h2⟩ := split_all (itoa_are n) (itoa_are m) hx.num hy.num h
  exact ⟨itoa_inj h1, h2⟩

/-! ### Quoted texts -/
def unhex (c : UInt8) : Nat := if c.toNat < 58 then c.toNat - 48 else c.toNat - 87
def unesc : List UInt8 → UInt8 × List UInt8
  | 92 :: 39 :: r => (39, r)
  | 92 :: 92 :: r => (92, r)
  | 92 :: 110 :: r => (10, r)
  | 92 :: 116 :: r => (9, r)
  | 92 :: 114 :: r => (13, r)
  | 92 :: 117 :: _ :: _ :: h :: k :: r => (UInt8.ofNat (16 * unhex h + unhex k), r)
  | c :: r => (c, r)
  | [] => (0, [])
theorem unhex_hex : ∀ n < 16, unhex (hexB n) = n := by decide
theorem unesc_esc (c : UInt8) (r : List UInt8) : unesc (escB c ++ r) = (c, r) := by
  unfold escB
  split
  · rename_i h; subst h; rfl
  · split
    · rename_i h; subst h; rfl
    · split
      · rename_i h; subst h; rfl
      · split
        · rename_i h; subst h; rfl
        · split
          · rename_i h; subst h; rfl
          · split
            · rename_i h
              have hc := c.toNat_lt
              show (UInt8.ofNat (16 * unhex (hexB (c.toNat / 16)) + unhex (hexB (c.toNat % 16))), r) = (c, r)
              rw [unhex_hex _ (by omega), unhex_hex _ (by omega)]
              congr 1
              apply UInt8.toNat_inj.1
              rw [UInt8.toNat_ofNat']; omega
            · rename_i h1 h2 h3 h4 h5 h6
              show unesc (c :: r) = (c, r)
              unfold unesc
              split <;> simp_all
theorem esc_head (c : UInt8) : ∃ d r, escB c = d :: r ∧ d ≠ 39 := by
  unfold escB
  split
  · exact ⟨_, _, rfl, by decide⟩
  · rename_i h
    repeat' split
    all_goals first
      | exact ⟨_, _, rfl, by decide⟩
      | exact ⟨_, _, rfl, h⟩
theorem quoted_split : ∀ (s t x y : List UInt8), s.flatMap escB ++ 39 :: x = t.flatMap escB ++ 39 :: y → s = t ∧ x = y := by
  intro s
  induction s with
  | nil =>
    intro t x y h
    cases t with
    | nil => simpa using h
    | cons d t =>
      obtain ⟨e, r, he, hne⟩ := esc_head d
      simp only [List.flatMap_nil, List.nil_append, List.flatMap_cons, he, List.cons_append, List.cons.injEq] at h
      exact absurd h.1.symm hne
  | cons c s ih =>
    intro t x y h
    cases t with
    | nil =>
      obtain ⟨e, r, he, hne⟩ := esc_head c
      simp only [List.flatMap_nil, List.nil_append, List.flatMap_cons, he, List.cons_append, List.cons.injEq] at h
      exact absurd h.1 hne
    | cons d t =>
      simp only [List.flatMap_cons, List.append_assoc] at h
      have h2 := congrArg unesc h
      rw [unesc_esc, unesc_esc] at h2
      obtain ⟨rfl, h3⟩ := Prod.mk.inj h2
      obtain ⟨rfl, rfl⟩ := ih t x y h3
      exact ⟨rfl, rfl⟩
theorem quote_split {s t x y : List UInt8} (h : quoteB s ++ x = quoteB t ++ y) : s = t ∧ x = y := by
  unfold quoteB at h
  simp only [List.cons_append, List.append_assoc, List.nil_append, List.cons.injEq, true_and] at h
  exact quoted_split s t x y h

/-! ### Names -/
def wordC (c : UInt8) : Bool := letterB c || digitB c
theorem plain_are {s : List UInt8} (h : plainB s = true) : (∀ c ∈ s, wordC c = true) ∧ ∃ c r, s = c :: r ∧ c ≠ 96 := by
  cases s with
  | nil => simp [plainB] at h
  | cons c r =>
    simp only [plainB, Bool.and_eq_true, List.all_eq_true] at h
    refine ⟨fun d hd => ?_, c, r, rfl, ?_⟩
    · rcases List.mem_cons.1 hd with rfl | hd
      · unfold wordC; rw [h.1]; rfl
      · exact h.2 d hd
    · rintro rfl
      exact absurd h.1 (by decide)
theorem ticked_split : ∀ (s t x y : List UInt8), s.flatMap tickB ++ 96 :: 58 :: x = t.flatMap tickB ++ 96 :: 58 :: y → s = t ∧ x = y := by
  intro s
  induction s with
  | nil =>
    intro t x y h
    cases t with
    | nil => simpa using h
    | cons d t =>
      exfalso
      simp only [List.flatMap_nil, List.nil_append, List.flatMap_cons, tickB] at h
      split at h
      · simp at h
      · rename_i hd
        simp only [List.cons_append, List.nil_append, List.cons.injEq] at h
        exact hd h.1.symm
  | cons c s ih =>
    intro t x y h
    cases t with
    | nil =>
      exfalso
      simp only [List.flatMap_nil, List.nil_append, List.flatMap_cons, tickB] at h
      split at h
      · simp at h
      · rename_i hd
        simp only [List.cons_append, List.nil_append, List.cons.injEq] at h
        exact hd h.1
    | cons d t =>
      simp only [List.flatMap_cons, List.append_assoc, tickB] at h
      split at h <;> split at h
      · rename_i h1 h2
        subst h1; subst h2
        simp only [List.cons_append, List.nil_append, List.cons.injEq, true_and] at h
        obtain ⟨rfl, rfl⟩ := ih t x y h
        exact ⟨rfl, rfl⟩
      · rename_i h1 h2
        subst h1
        simp only [List.cons_append, List.nil_append, List.cons.injEq] at h
        exact absurd h.1.symm h2
      · rename_i h1 h2
        subst h2
        simp only [List.cons_append, List.nil_append, List.cons.injEq] at h
        exact absurd h.1 h1
      · simp only [List.cons_append, List.nil_append, List.cons.injEq] at h
        obtain ⟨rfl, h⟩ := h
        obtain ⟨rfl, rfl⟩ := ih t x y h
        exact ⟨rfl, rfl⟩
theorem name_split {s t x y : List UInt8} (h : nameB s ++ 58 :: x = nameB t ++ 58 :: y) : s = t ∧ x = y := by
  unfold nameB at h
  have w58 : ∀ (z : List UInt8) c r, (58 :: z : List UInt8) = c :: r → wordC c = false := by
    intro z c r e; obtain ⟨rfl, _⟩ := List.cons.inj e; rfl
  by_cases h1 : plainB s = true <;> by_cases h2 : plainB t = true
  · rw [if_pos h1, if_pos h2] at h
    obtain ⟨e1, e2⟩ := split_all (plain_are h1).1 (plain_are h2).1 (w58 x) (w58 y) h
    exact ⟨e1, (List.cons.inj e2).2⟩
  · rw [if_pos h1, if_neg h2] at h
    obtain ⟨_, c, r, rfl, hc⟩ := plain_are h1
    simp only [List.cons_append, List.cons.injEq] at h
    exact absurd h.1 hc
  · rw [if_neg h1, if_pos h2] at h
    obtain ⟨_, c, r, rfl, hc⟩ := plain_are h2
    simp only [List.cons_append, List.cons.injEq] at h
    exact absurd h.1.symm hc
  · rw [if_neg h1, if_neg h2] at h
    simp only [List.cons_append, List.append_assoc, List.nil_append, List.cons.injEq, true_and] at h
    exact ticked_split s t x y h

/-! ### Rows -/
theorem tails_split {α : Type} (f : α → List UInt8) (e : UInt8) (he : e = 93 ∨ e = 125) : ∀ l l' : List α, (∀ a ∈ l, ∀ b ∈ l', ∀ x y, Ends x → Ends y → f a ++ x = f b ++ y → a = b ∧ x = y) →
    ∀ x y, Lib.joinTail [44, 32] (l.map f) ++ e :: x = Lib.joinTail [44, 32] (l'.map f) ++ e :: y → l = l' ∧ x = y := by
  have hh : ∀ (m : List α) z, Ends (Lib.joinTail [44, 32] (m.map f) ++ e :: z) := by
    intro m z c r h
    cases m with
    | nil =>
      simp only [List.map_nil, Lib.joinTail, List.flatten_nil, List.nil_append, List.cons.injEq] at h
      rw [← h.1]; rcases he with rfl | rfl <;> simp
    | cons a m =>
      simp only [List.map_cons, Lib.joinTail, List.flatten_cons, List.cons_append, List.cons.injEq] at h
      exact .inl h.1.symm
  intro l
  induction l with
  | nil =>
    intro l' _ x y h
    cases l' with
    | nil => simpa [Lib.joinTail] using h
    | cons b l' =>
      simp only [List.map_nil, List.map_cons, Lib.joinTail, List.flatten_nil, List.nil_append, List.flatten_cons, List.cons_append, List.cons.injEq] at h
      rcases he with rfl | rfl <;> exact absurd h.1 (by decide)
  | cons a l ih =>
    intro l' H x y h
    cases l' with
    | nil =>
      simp only [List.map_nil, List.map_cons, Lib.joinTail, List.flatten_nil, List.nil_append, List.flatten_cons, List.cons_append, List.cons.injEq] at h
      rcases he with rfl | rfl <;> exact absurd h.1 (by decide)
    | cons b l' =>
      simp only [List.map_cons, Lib.joinTail, List.flatten_cons, List.cons_append, List.nil_append, List.append_assoc, List.cons.injEq, true_and] at h
      obtain ⟨rfl, h2⟩ := H a (by simp) b (by simp) _ _ (hh l x) (hh l' y) h
      obtain ⟨rfl, rfl⟩ := ih l' (fun a ha b hb => H a (by simp [ha]) b (by simp [hb])) x y h2
      exact ⟨rfl, rfl⟩
theorem items_split {α : Type} (f : α → List UInt8) (e : UInt8) (he : e = 93 ∨ e = 125) (l l' : List α) (H : ∀ a ∈ l, ∀ b ∈ l', ∀ x y, Ends x → Ends y → f a ++ x = f b ++ y → a = b ∧ x = y)
    (Hh : ∀ a, a ∈ l ∨ a ∈ l' → ∀ z r, f a ++ z ≠ e :: r) (x y : List UInt8) (h : Lib.join (l.map f) [44, 32] ++ e :: x = Lib.join (l'.map f) [44, 32] ++ e :: y) : l = l' ∧ x = y := by
  have hh : ∀ (m : List α) z, Ends (Lib.joinTail [44, 32] (m.map f) ++ e :: z) := by
    intro m z c r h
    cases m with
    | nil =>
      simp only [List.map_nil, Lib.joinTail, List.flatten_nil, List.nil_append, List.cons.injEq] at h
      rw [← h.1]; rcases he with rfl | rfl <;> simp
    | cons a m =>
      simp only [List.map_cons, Lib.joinTail, List.flatten_cons, List.cons_append, List.cons.injEq] at h
      exact .inl h.1.symm
  cases l with
  | nil =>
    cases l' with
    | nil => simpa [Lib.join_nil] using h
    | cons b l' =>
      rw [List.map_nil, List.map_cons, Lib.join_nil, Lib.join_cons, List.append_assoc, List.nil_append] at h
      exact absurd h.symm (Hh b (.inr (by simp)) _ _)
  | cons a l =>
    cases l' with
    | nil =>
      rw [List.map_nil, List.map_cons, Lib.join_nil, Lib.join_cons, List.append_assoc, List.nil_append] at h
      exact absurd h (Hh a (.inl (by simp)) _ _)
    | cons b l' =>
      rw [List.map_cons, List.map_cons, Lib.join_cons, Lib.join_cons, List.append_assoc, List.append_assoc] at h
      obtain ⟨rfl, h2⟩ := H a (by simp) b (by simp) _ _ (hh l x) (hh l' y) h
      obtain ⟨rfl, rfl⟩ := tails_split f e he l l' (fun a ha b hb => H a (by simp [ha]) b (by simp [hb])) x y h2
      exact ⟨rfl, rfl⟩
/-! ### Texts -/
def kindOf : List UInt8 → Int
  | [] => -1
  | c :: r => if c = 110 then 0 else if c = 116 ∨ c = 102 then 1 else if numC c then 2 else if c = 39 then 3 else if c = 91 then 4 else if c = 123 then 5 else if r.headD 0 = 110 then 6 else 7
theorem numC_not {c : UInt8} (h : numC c = true) : c ≠ 110 ∧ c ≠ 116 ∧ c ≠ 102 ∧ c ≠ 93 ∧ c ≠ 125 := by
  refine ⟨?_, ?_, ?_, ?_, ?_⟩ <;> (rintro rfl; exact absurd h (by decide))
theorem textV_mk (k : Int) (b : Bool) (n : Int) (t : List UInt8) (ks : List (List UInt8)) (l : List V) : textV (.mk k b n t ks l) =
    if k = 1 then (if b then [116, 114, 117, 101] else [102, 97, 108, 115, 101])
    else if k = 2 then Lib.itoa n
    else if k = 3 then quoteB t
    else if k = 6 then [60, 110] ++ Lib.itoa n ++ [62]
    else if k = 7 then [60, 114] ++ Lib.itoa n ++ [62]
    else if k = 0 then [110, 117, 108, 108]
    else if k = 5 then 123 :: (Lib.join (entriesV ks l) [44, 32] ++ [125])
    else 91 :: (Lib.join (textsV l) [44, 32] ++ [93]) := by rw [textV]
theorem kind_of (v : V) (h0 : 0 ≤ v.kind) (h7 : v.kind ≤ 7) (x : List UInt8) : kindOf (textV v ++ x) = v.kind := by
  cases v with
  | mk k b n t ks l =>
    simp only [V.kind] at *
    rw [textV_mk]
    have hk : k = 0 ∨ k = 1 ∨ k = 2 ∨ k = 3 ∨ k = 4 ∨ k = 5 ∨ k = 6 ∨ k = 7 := by omega
    rcases hk with rfl | rfl | rfl | rfl | rfl | rfl | rfl | rfl
    · simp [kindOf]
    · cases b <;> simp [kindOf]
    · obtain ⟨c, r, e, hc⟩ := itoa_head n
      obtain ⟨g1, g2, g3, _⟩ := numC_not hc
      simp [e, kindOf, hc, g1, g2, g3]
    · simp [quoteB, kindOf, numC, digitB]
    · simp [kindOf, numC, digitB]
    · simp [kindOf, numC, digitB]
    · simp [kindOf, numC, digitB]
    · simp [kindOf, numC, digitB]
theorem text_head (v : V) (h0 : 0 ≤ v.kind) (h7 : v.kind ≤ 7) (z r : List UInt8) : textV v ++ z ≠ 93 :: r ∧ textV v ++ z ≠ 125 :: r := by
  cases v with
  | mk k b n t ks l =>
    simp only [V.kind] at *
    rw [textV_mk]
    have hk : k = 0 ∨ k = 1 ∨ k = 2 ∨ k = 3 ∨ k = 4 ∨ k = 5 ∨ k = 6 ∨ k = 7 := by omega
    rcases hk with rfl | rfl | rfl | rfl | rfl | rfl | rfl | rfl
    · simp
    · cases b <;> simp
    · obtain ⟨c, q, e, hc⟩ := itoa_head n
      obtain ⟨_, _, _, g1, g2⟩ := numC_not hc
      simp [e, g1, g2]
    · simp [quoteB]
    · simp
    · simp
    · simp
    · simp
def entryB (p : List UInt8 × V) : List UInt8 := nameB p.1 ++ [58, 32] ++ textV p.2
theorem entriesV_eq : ∀ (ks : List (List UInt8)) (l : List V), ks.length = l.length → entriesV ks l = (ks.zip l).map entryB := by
  intro ks
  induction ks with
  | nil => intro l h; cases l with
    | nil => simp [entriesV]
    | cons => simp at h
  | cons k ks ih => intro l h; cases l with
    | nil => simp at h
    | cons a l => simp [entriesV, entryB, ih l (by simpa using h)]
theorem name_head (s z r : List UInt8) : nameB s ++ z ≠ 93 :: r ∧ nameB s ++ z ≠ 125 :: r := by
  unfold nameB
  split
  · rename_i h
    obtain ⟨hw, c, q, rfl, _⟩ := plain_are h
    have := hw c (by simp)
    constructor <;> (rintro e; simp only [List.cons_append, List.cons.injEq] at e; rw [e.1] at this; exact absurd this (by decide))
  · simp
theorem zip_inj : ∀ {ks ks' : List (List UInt8)} {l l' : List V}, ks.length = l.length → ks'.length = l'.length → ks.zip l = ks'.zip l' → ks = ks' ∧ l = l' := by
  intro ks ks' l l' h1 h2 h
  have e1 := congrArg (List.map Prod.fst) h
  have e2 := congrArg (List.map Prod.snd) h
  rw [List.map_fst_zip (by omega), List.map_fst_zip (by omega)] at e1
  rw [List.map_snd_zip (by omega), List.map_snd_zip (by omega)] at e2
  exact ⟨e1, e2⟩
/-- One text, one value. -/
theorem text_split {u : List UInt8 → Bool} : ∀ a : V, mayV u a = true → ∀ b : V, mayV u b = true → ∀ x y, Ends x → Ends y → textV a ++ x = textV b ++ y → a = b ∧ x = y := by
  refine V.ind fun k b n t ks l ih => ?_
  intro ha v hb x y hx hy h
  obtain ⟨h1, h2⟩ := mayV_iff.1 ha
  obtain ⟨g1, g2⟩ := mayV_iff.1 hb
  have f1 := oneV_iff.1 h1
  have f2 := oneV_iff.1 g1
  have hk : k = v.kind := by
    have e1 := kind_of (.mk k b n t ks l) f1.lo f1.hi x
    have e2 := kind_of v f2.lo f2.hi y
    rw [h, e2] at e1
    exact e1.symm
  cases v with
  | mk k' b' n' t' ks' l' =>
    obtain ⟨p1, p2, p3, p4, p5, p6, p7, _, _, p10, _, _⟩ := f1
    obtain ⟨_, _, q3, q4, q5, q6, q7, _, _, q10, _, _⟩ := f2
    simp only [V.kind, V.b, V.n, V.text, V.keys, V.list] at *
    subst hk
    rw [textV_mk, textV_mk] at h
    have hkk : k = 0 ∨ k = 1 ∨ k = 2 ∨ k = 3 ∨ k = 4 ∨ k = 5 ∨ k = 6 ∨ k = 7 := by omega
    rcases hkk with rfl | rfl | rfl | rfl | rfl | rfl | rfl | rfl
    · rw [p3 (by decide), q3 (by decide), p4 (by decide) (by decide) (by decide), q4 (by decide) (by decide) (by decide), p5 (by decide), q5 (by decide), p6 (by decide), q6 (by decide), p7 (by decide) (by decide), q7 (by decide) (by decide)]
      simpa using h
    · rw [p4 (by decide) (by decide) (by decide), q4 (by decide) (by decide) (by decide), p5 (by decide), q5 (by decide), p6 (by decide), q6 (by decide), p7 (by decide) (by decide), q7 (by decide) (by decide)]
      cases b <;> cases b' <;> simp at h ⊢
      · exact h
      · exact h
    · rw [p3 (by decide), q3 (by decide), p5 (by decide), q5 (by decide), p6 (by decide), q6 (by decide), p7 (by decide) (by decide), q7 (by decide) (by decide)]
      simp only [if_neg (show ¬ ((2 : Int) = 1) by decide), if_true] at h
      obtain ⟨rfl, rfl⟩ := itoa_split hx hy h
      exact ⟨rfl, rfl⟩
    · rw [p3 (by decide), q3 (by decide), p4 (by decide) (by decide) (by decide), q4 (by decide) (by decide) (by decide), p6 (by decide), q6 (by decide), p7 (by decide) (by decide), q7 (by decide) (by decide)]
      simp only [if_neg (show ¬ ((3 : Int) = 1) by decide), if_neg (show ¬ ((3 : Int) = 2) by decide), if_true] at h
      obtain ⟨rfl, rfl⟩ := quote_split h
      exact ⟨rfl, rfl⟩
    · rw [p3 (by decide), q3 (by decide), p4 (by decide) (by decide) (by decide), q4 (by decide) (by decide) (by decide), p5 (by decide), q5 (by decide), p6 (by decide), q6 (by decide)]
      simp only [if_neg (show ¬ ((4 : Int) = 1) by decide), if_neg (show ¬ ((4 : Int) = 2) by decide), if_neg (show ¬ ((4 : Int) = 3) by decide), if_neg (show ¬ ((4 : Int) = 6) by decide), if_neg (show ¬ ((4 : Int) = 7) by decide), if_neg (show ¬ ((4 : Int) = 0) by decide), if_neg (show ¬ ((4 : Int) = 5) by decide), List.cons_append, List.append_assoc, List.nil_append, List.cons.injEq, true_and, textsV_eq] at h
      obtain ⟨rfl, rfl⟩ := items_split textV 93 (.inl rfl) l l' (fun a ha b hb x y hx hy e => ih a ha (h2 a ha) b (g2 b hb) x y hx hy e)
        (fun a ha z r => by
          have hm : mayV u a = true := by rcases ha with ha | ha; exact h2 a ha; exact g2 a ha
          have f := oneV_iff.1 (mayV_iff.1 hm).1
          exact (text_head a f.lo f.hi z r).1) x y h
      exact ⟨rfl, rfl⟩
    · rw [p3 (by decide), q3 (by decide), p4 (by decide) (by decide) (by decide), q4 (by decide) (by decide) (by decide), p5 (by decide), q5 (by decide)]
      have hl1 := p10 rfl
      have hl2 := q10 rfl
      simp only [if_neg (show ¬ ((5 : Int) = 1) by decide), if_neg (show ¬ ((5 : Int) = 2) by decide), if_neg (show ¬ ((5 : Int) = 3) by decide), if_neg (show ¬ ((5 : Int) = 6) by decide), if_neg (show ¬ ((5 : Int) = 7) by decide), if_neg (show ¬ ((5 : Int) = 0) by decide), if_true, List.cons_append, List.append_assoc, List.nil_append, List.cons.injEq, true_and, entriesV_eq _ _ hl1, entriesV_eq _ _ hl2] at h
      obtain ⟨e, rfl⟩ := items_split entryB 125 (.inr rfl) (ks.zip l) (ks'.zip l') (fun a ha b hb x y hx hy e => by
          obtain ⟨k1, a1⟩ := a
          obtain ⟨k2, b1⟩ := b
          have ha1 := (List.of_mem_zip ha).2
          have hb1 := (List.of_mem_zip hb).2
          simp only [entryB, List.append_assoc, List.cons_append, List.nil_append] at e
          obtain ⟨rfl, e2⟩ := name_split e
          obtain ⟨rfl, rfl⟩ := ih a1 ha1 (h2 a1 ha1) b1 (g2 b1 hb1) x y hx hy (List.cons.inj e2).2
          exact ⟨rfl, rfl⟩)
        (fun a _ z r => by
          simp only [entryB, List.append_assoc]
          exact (name_head _ _ _).2) x y h
      obtain ⟨rfl, rfl⟩ := zip_inj hl1 hl2 e
      exact ⟨rfl, rfl⟩
    · rw [p3 (by decide), q3 (by decide), p5 (by decide), q5 (by decide), p6 (by decide), q6 (by decide), p7 (by decide) (by decide), q7 (by decide) (by decide)]
      simp only [if_neg (show ¬ ((6 : Int) = 1) by decide), if_neg (show ¬ ((6 : Int) = 2) by decide), if_neg (show ¬ ((6 : Int) = 3) by decide), if_true, List.cons_append, List.append_assoc, List.nil_append, List.cons.injEq, true_and] at h
      have he : ∀ z : List UInt8, Ends (62 :: z) := fun z c r e => .inr (.inr (.inr (List.cons.inj e).1.symm))
      obtain ⟨rfl, h'⟩ := itoa_split (he x) (he y) h
      exact ⟨rfl, (List.cons.inj h').2⟩
    · rw [p3 (by decide), q3 (by decide), p5 (by decide), q5 (by decide), p6 (by decide), q6 (by decide), p7 (by decide) (by decide), q7 (by decide) (by decide)]
      simp only [if_neg (show ¬ ((7 : Int) = 1) by decide), if_neg (show ¬ ((7 : Int) = 2) by decide), if_neg (show ¬ ((7 : Int) = 3) by decide), if_neg (show ¬ ((7 : Int) = 6) by decide), if_true, List.cons_append, List.append_assoc, List.nil_append, List.cons.injEq, true_and] at h
      have he : ∀ z : List UInt8, Ends (62 :: z) := fun z c r e => .inr (.inr (.inr (List.cons.inj e).1.symm))
      obtain ⟨rfl, h'⟩ := itoa_split (he x) (he y) h
      exact ⟨rfl, (List.cons.inj h').2⟩
theorem ends_nil : Ends [] := fun c r e => by cases e
theorem text_inj {u : List UInt8 → Bool} {a b : V} (ha : mayV u a = true) (hb : mayV u b = true) (h : textV a = textV b) : a = b :=
  (text_split a ha b hb [] [] ends_nil ends_nil (by rw [h])).1
end Go.Proofs.YtnkaegdnjfpliaaGreatDoor

/-! The document's Sorted and Once. Printed by gen_rsort.py. -/
namespace Go.Proofs.YtnkaegdnjfpliaaGreatDoor
set_option linter.unusedSimpArgs false
set_option linter.unusedVariables false
open Go.RowKit

/-- What stands behind j values. -/
def SrtL (l : List V) (j : Nat) (m : List V) : Prop := m.Perm (l.take j) ∧ m.Pairwise (fun a b => cmpV a b ≤ 0)
theorem srt_step {l m : List V} {j a : Nat} (h : SrtL l j m) (hlt : j < l.length) (hlo : ∀ k u, k < a → m[k]? = some u → cmpV u l[j] ≤ 0) (hhi : ∀ u, m[a]? = some u → 0 < cmpV u l[j]) : SrtL l (j + 1) (m.take a ++ [l[j]] ++ m.drop a) := by
  obtain ⟨h1, h2⟩ := h
  refine ⟨?_, ?_⟩
  · rw [List.take_succ_eq_append_getElem hlt, show m.take a ++ [l[j]] ++ m.drop a = m.take a ++ l[j] :: m.drop a by simp]
    refine (List.perm_middle).trans ?_
    rw [List.take_append_drop]
    exact (List.Perm.cons l[j] h1).trans (List.perm_append_singleton l[j] (l.take j)).symm
  · rw [← List.take_append_drop a m] at h2
    obtain ⟨p1, p2, p3⟩ := List.pairwise_append.1 h2
    have hlow : ∀ s ∈ m.take a, cmpV s l[j] ≤ 0 := by
      intro s hs
      obtain ⟨i, hi, e⟩ := List.getElem_of_mem hs
      have hi' : i < a := by rw [List.length_take] at hi; omega
      refine hlo i s hi' ?_
      rw [← e, List.getElem_take]
      exact List.getElem?_eq_getElem _
    have hhigh : ∀ s ∈ m.drop a, cmpV l[j] s ≤ 0 := by
      intro s hs
      cases hd : m.drop a with
      | nil => rw [hd] at hs; simp at hs
      | cons b r =>
        have hb : m[a]? = some b := by
          have := congrArg (fun l => l[0]?) hd
          simpa using this
        have hb2 := hhi b hb
        have hb3 := (ord_cmpV b).anti l[j]
        have hb4 := (ord_cmpV l[j]).range b
        rw [hd] at hs p2
        rcases List.mem_cons.1 hs with rfl | hs
        · omega
        · have := (ord_cmpV l[j]).chain b s (by omega) ((List.pairwise_cons.1 p2).1 s hs)
          omega
    rw [List.append_assoc]
    refine List.pairwise_append.2 ⟨p1, List.pairwise_cons.2 ⟨hhigh, p2⟩, fun x hx y hy => ?_⟩
    rcases List.mem_cons.1 hy with rfl | hy
    · exact hlow x hx
    · exact p3 x hx y hy
/-- A value is set in at a place of a row. -/
theorem cutV_any {w W0 : World} {n0 : Nat} {vl : Value} {L : List V} (h : RowV w n0 W0 vl L) (h0 : n0 ≤ W0.heap.size) {v : V} {x : Array Value} (hx : VRd w v x) {m : Nat} (hl : m ≤ L.length) (hn : L.length ≤ 900000) :
    ∃ p1 p2 c1 c2 a1 a2 a3 W1 W2 W3, (∀ W, (Instr.slice 24 vl none (some (.int .i64 (m : Int))) none).run Tryz.prog W = .ok (.slice p1 (L.take m).length c1) W) ∧
      (Builtin.append_ #[24, 24] 24 #[.slice none 0 0, .slice p1 (L.take m).length c1]).run Tryz.prog W0 = .ok a1 W1 ∧ Below W0.heap.size W0 W1 ∧
      (Builtin.append_ #[24, 24] 24 #[a1, .slice (some ⟨W1.heap.size, 0, none⟩) 1 1]).run Tryz.prog (W1.alloc (.cells x 26)) = .ok a2 W2 ∧
      (∀ W, (Instr.slice 24 vl (some (.int .i64 (m : Int))) none none).run Tryz.prog W = .ok (.slice p2 (L.drop m).length c2) W) ∧
      (Builtin.append_ #[24, 24] 24 #[a2, .slice p2 (L.drop m).length c2]).run Tryz.prog W2 = .ok a3 W3 ∧ RowV w n0 W3 a3 (L.take m ++ [v] ++ L.drop m) ∧ Below W0.heap.size W0 W3 := by
  have t3 : (L.take m).length = m := by simp; omega
  have t4 : (L.drop m).length = L.length - m := by simp
  obtain ⟨p3, c3, s3, d3, e3⟩ := h.low hl
  have s3' : ∀ W, (Instr.slice 24 vl none (some (.int .i64 (m : Int))) none).run Tryz.prog W = .ok (.slice p3 (L.take m).length c3) W := by rw [t3]; exact s3
  obtain ⟨b1, W4, r4, o4, g4⟩ := (RowV.start w W0.heap.size W0).step d3 (Nat.le_refl _) (by simp; omega) e3 24
  have M4 := h.below g4
  have n4 := below_new (w := W4) (.cells x 26)
  have q4 := heap_alloc_new W4 (.cells x 26)
  have z4 := g4.size
  obtain ⟨b2, W5, r5, o5, g5⟩ := (o4.below n4).step (PieceV.one hx q4) (Nat.le_trans z4 n4.size) (by simp; omega) (fun h => by cases h) 24
  have G5 : Below W0.heap.size W0 W5 := (g4.trans (n4.mono z4)).trans g5
  have M5 := h.below G5
  obtain ⟨p4, c4, s4, d4, e4⟩ := M5.high hl
  have s4' : ∀ W, (Instr.slice 24 vl (some (.int .i64 (m : Int))) none none).run Tryz.prog W = .ok (.slice p4 (L.drop m).length c4) W := by rw [t4]; exact s4
  obtain ⟨b3, W6, r6, o6, g6⟩ := o5.step d4 G5.size (by simp; omega) e4 24
  exact ⟨p3, p4, c3, c4, b1, b2, b3, W4, W5, W6, s3', r4, g4, r5, s4', r6, o6.mono h0, G5.trans g6⟩
/-- The values in order so far, in a row of one's own. -/
def SrI (w0 w W : World) (o : Value) (l : List V) (j : Nat) (m : List V) : Prop := RowV w0 w.heap.size W o m ∧ Below w.heap.size w W ∧ SrtL l j m ∧ m.length = j
set_option maxRecDepth 100000 in
set_option maxHeartbeats 8000000 in
theorem sortedR_any {w0 w : World} {p : Option Addr} {c : Nat} {l : List V} (hb0 : Below w0.heap.size w0 w) (hl : LRd w0 p c l) (hm : ∀ v ∈ l, mayV Lib.validD v = true) (hn : l.length ≤ 900000) :
    Calls Tryz.prog 56 #[.slice p l.length c] w fun e w' => ∃ pa ca la, e = .returned (.slice pa l.length ca) ∧ RowV w0 w.heap.size w' (.slice pa l.length ca) la ∧ la.Perm l ∧ la.Pairwise (fun a b => cmpV a b ≤ 0) ∧ Below w.heap.size w w' := by
  have z1 : (l.length : Int) ≤ 900000 := by omega
  have HL := Lib.hid hl
  have HM := Lib.hid hm
  have HB0 := Lib.hid hb0
  clear hl hm hb0
  go_enter Tryz.func56, Tryz.ntmps56
  go_wp2
  go_loopw [3, 4] (fun o i W => ∃ (j : Nat) (m : List V) (ov : Value), j ≤ l.length ∧ i = .int .i64 (j : Int) ∧ ov = o ∧ Hid (SrI w0 w W ov l j m)) (fun _ i _ => l.length - (intOf i).toNat)
  case atStart => exact ⟨0, [], _, Nat.zero_le _, rfl, rfl, Lib.hid ⟨RowV.start _ _ _, Below.refl _ _, ⟨by simp, .nil⟩, rfl⟩⟩
  case round =>
    obtain ⟨j, m, ov, hj, rfl, rfl, HO⟩ := hrel
    obtain ⟨po, co, e, hro⟩ := HO.out.1.rd HB0.out.size (below_trans HB0.out HO.out.2.1) (by rw [HO.out.2.2.2]; omega)
    rw [HO.out.2.2.2] at e
    subst e
    by_cases hlt : j < l.length
    · have hlt1 : j + 1 ≤ l.length := hlt
      obtain ⟨gl, ol, pk1, ck1, pl1, cl1, rfl, ⟨b0, b1, b2, b3, b4, b5⟩, hv1⟩ := HL.out.at hlt
      replace b0 := belowCell HB0.out (ltOf b0) b0
      replace b1 := belowCell HB0.out (ltOf b1) b1
      replace b2 := belowCell HB0.out (ltOf b2) b2
      replace b3 := belowCell HB0.out (ltOf b3) b3
      replace b4 := belowCell HB0.out (ltOf b4) b4
      replace b5 := belowCell HB0.out (ltOf b5) b5
      have h6 : Six w gl (ol + j * 6) #[.int .i64 l[j].kind, .bool l[j].b, .int .i64 l[j].n, .string (strB l[j].text), .slice pk1 l[j].keys.length ck1, .slice pl1 l[j].list.length cl1] := ⟨_, _, _, _, _, _, rfl, b0, b1, b2, b3, b4, b5⟩
      have HV := Lib.hid (And.intro hv1 (And.intro b0 (And.intro b1 (And.intro b2 (And.intro b3 (And.intro b4 b5))))))
      have H6 := Lib.hid h6
      have HRO := Lib.hid hro
      clear b0 b1 b2 b3 b4 b5 hv1 h6 hro
      go_wp2
      generalize wr = Wj at *
      go_loopw [5] (fun i W => ∃ a : Nat, a ≤ j ∧ i = .int .i64 (a : Int) ∧ Hid (∀ k u, k < a → m[k]? = some u → cmpV u l[j] ≤ 0) ∧ Hid (Below Wj.heap.size Wj W)) (fun i _ => j - (intOf i).toNat)
      case atStart => exact ⟨0, Nat.zero_le _, rfl, Lib.hid (fun k u h => by omega), Lib.hid (Below.refl _ _)⟩
      case round =>
        obtain ⟨a, ha, rfl, HLO, HBa⟩ := hrel
        by_cases haj : a < j
        · have haj1 : a + 1 ≤ j := haj
          have ham : a < m.length := by rw [HO.out.2.2.2]; exact haj
          obtain ⟨go, oo, xo, eo, o6, ov6⟩ := HRO.out.get ham
          subst eo
          have hc : ∀ W : World, (binOp .lss 3 (.int .i64 (a : Int)) (.int .i64 (j : Int))).run Tryz.prog W = .ok (.bool true) W := by
            intro W; simp [go_sem]; omega
          have hmem : m[a] ∈ l := List.mem_of_mem_take (HO.out.2.2.1.1.mem_iff.1 (List.getElem_mem ham))
          have hbw : Below w.heap.size w wr := below_trans HO.out.2.1 HBa.out
          have HQ := Lib.hid (fun (W : World) (hb : Below wr.heap.size wr W) => compareR_any m[a] (HM.out _ hmem) l[j] (HM.out _ (List.getElem_mem hlt)) W xo _ (ov6.below (below_trans HBa.out hb)) (HV.out.1.below (below_trans HB0.out (below_trans hbw hb))))
          have HMA := Lib.hid (show m[a]? = some m[a] from List.getElem?_eq_getElem ham)
          generalize m[a] = v1 at *
          have HCC : Hid (cmpV v1 l[j] = cmpV v1 l[j]) := Lib.hid rfl
          obtain ⟨C, hC⟩ : ∃ C, C = cmpV v1 l[j] := ⟨_, rfl⟩
          rw [← hC] at HQ
          have HCE := Lib.hid hC
          clear hC HCC
          have hU := TwoE.start (o6.below HBa.out) (H6.out.below hbw)
          generalize hxl : (#[Value.int .i64 l[j].kind, .bool l[j].b, .int .i64 l[j].n, .string (strB l[j].text), .slice pk1 l[j].keys.length ck1, .slice pl1 l[j].list.length cl1] : Array Value) = xl at HQ hU
          have HXL := Lib.hid hxl
          clear hxl o6 ov6 hmem hbw ham
          by_cases hC0 : C ≤ 0
          · have eC : ∀ W : World, (binOp .leq 3 (.int .i64 C) (.int .i64 0)).run Tryz.prog W = .ok (.bool true) W := fun W => by simp [go_sem, hC0]
            have HN2 : Hid (∀ k u, k < a + 1 → m[k]? = some u → cmpV u l[j] ≤ 0) := Lib.hid (fun k u hk hu => by
              by_cases e : k < a
              · exact HLO.out k u e hu
              · obtain rfl : k = a := by omega
                have := HMA.out.symm.trans hu
                cases this
                rw [← HCE.out]; exact hC0)
            clear hC0
            go_wp2
            refine plain_region_draws (fun W => TwoE wr go (oo + a * 6) xo gl (ol + j * 6) xl W) (by kernel_rfl) hU (fun hU => ?_)
            refine take 0 13 (v := .int .i64 (a : Int)) rfl rfl (by kernel_rfl) (by kernel_rfl) (by kernel_rfl) rfl (fun W hW => exec_move rfl rfl) (by assumption) ?_
            simp only [Act.put, List.setIfInBounds_toArray, List.set_cons_zero, List.set_cons_succ]
            refine take 1 14 (v := .slice (some ⟨go, oo, none⟩) j co) rfl rfl (by kernel_rfl) (by kernel_rfl) (by kernel_rfl) rfl (fun W hW => exec_move rfl rfl) (by assumption) ?_
            simp only [Act.put, List.setIfInBounds_toArray, List.set_cons_zero, List.set_cons_succ]
            refine take 2 15 (v := .int .i64 (j : Int)) rfl rfl (by kernel_rfl) (by kernel_rfl) (by kernel_rfl) rfl (fun W hW => exec_lenV rfl rfl) (by assumption) ?_
            simp only [Act.put, List.setIfInBounds_toArray, List.set_cons_zero, List.set_cons_succ]
            refine take 3 16 (v := .bool true) rfl rfl (by kernel_rfl) (by kernel_rfl) (by kernel_rfl) rfl (fun W hW => exec_bini rfl rfl rfl (hc W)) (by assumption) ?_
            simp only [Act.put, List.setIfInBounds_toArray, List.set_cons_zero, List.set_cons_succ]
            refine take 4 17 (v := .bool true) rfl rfl (by kernel_rfl) (by kernel_rfl) (by kernel_rfl) rfl (fun W hW => exec_move rfl rfl) (by assumption) ?_
            simp only [Act.put, List.setIfInBounds_toArray, List.set_cons_zero, List.set_cons_succ]
            refine take 5 18 (v := .slice (some ⟨go, oo, none⟩) j co) rfl rfl (by kernel_rfl) (by kernel_rfl) (by kernel_rfl) rfl (fun W hW => exec_move rfl rfl) (by assumption) ?_
            simp only [Act.put, List.setIfInBounds_toArray, List.set_cons_zero, List.set_cons_succ]
            refine take 6 19 (v := .int .i64 (a : Int)) rfl rfl (by kernel_rfl) (by kernel_rfl) (by kernel_rfl) rfl (fun W hW => exec_move rfl rfl) (by assumption) ?_
            simp only [Act.put, List.setIfInBounds_toArray, List.set_cons_zero, List.set_cons_succ]
            refine take 7 20 (v := .pointer (some ⟨go, oo + a * 6, none⟩)) rfl rfl (by kernel_rfl) (by kernel_rfl) (by kernel_rfl) rfl (fun W hW => exec_indexAddr rfl rfl rfl (ia_vals _ _ _ _ _ haj W)) (by assumption) ?_
            simp only [Act.put, List.setIfInBounds_toArray, List.set_cons_zero, List.set_cons_succ]
            refine take 8 21 (v := .agg xo) rfl rfl (by kernel_rfl) (by kernel_rfl) (by kernel_rfl) rfl (fun W hW => exec_load rfl rfl (load_six hW.one)) (by assumption) ?_
            simp only [Act.put, List.setIfInBounds_toArray, List.set_cons_zero, List.set_cons_succ]
            refine take 9 22 (v := .slice (some ⟨gl, ol, none⟩) l.length c) rfl rfl (by kernel_rfl) (by kernel_rfl) (by kernel_rfl) rfl (fun W hW => exec_move rfl rfl) (by assumption) ?_
            simp only [Act.put, List.setIfInBounds_toArray, List.set_cons_zero, List.set_cons_succ]
            refine take 10 23 (v := .int .i64 (j : Int)) rfl rfl (by kernel_rfl) (by kernel_rfl) (by kernel_rfl) rfl (fun W hW => exec_move rfl rfl) (by assumption) ?_
            simp only [Act.put, List.setIfInBounds_toArray, List.set_cons_zero, List.set_cons_succ]
            refine take 11 24 (v := .pointer (some ⟨gl, ol + j * 6, none⟩)) rfl rfl (by kernel_rfl) (by kernel_rfl) (by kernel_rfl) rfl (fun W hW => exec_indexAddr rfl rfl rfl (ia_vals _ _ _ _ _ hlt W)) (by assumption) ?_
            simp only [Act.put, List.setIfInBounds_toArray, List.set_cons_zero, List.set_cons_succ]
            refine take 12 25 (v := .agg xl) rfl rfl (by kernel_rfl) (by kernel_rfl) (by kernel_rfl) rfl (fun W hW => exec_load rfl rfl (load_six hW.two)) (by assumption) ?_
            simp only [Act.put, List.setIfInBounds_toArray, List.set_cons_zero, List.set_cons_succ]
            refine onlyCall 13 26 rfl rfl (by kernel_rfl) rfl (exec_call [.agg xo, .agg xl] rfl rfl Tryz.func19 (by kernel_rfl) (by kernel_rfl)) ?_
            refine (HQ.out _ hU.b).mono ?_
            rintro e w5 ⟨rfl, hb5⟩
            replace hU := hU.keep hb5
            refine ⟨_, rfl, .inr (by assumption), ?_⟩
            simp only [Act.put, List.setIfInBounds_toArray, List.set_cons_zero, List.set_cons_succ]
            refine take 14 27 (v := .bool true) rfl rfl (by kernel_rfl) (by kernel_rfl) (by kernel_rfl) rfl (fun W hW => exec_bini rfl rfl rfl (eC W)) (by assumption) ?_
            simp only [Act.put, List.setIfInBounds_toArray, List.set_cons_zero, List.set_cons_succ]
            refine take 15 28 (v := .bool true) rfl rfl (by kernel_rfl) (by kernel_rfl) (by kernel_rfl) rfl (fun W hW => rfl) (by assumption) ?_
            simp only [Act.put, List.setIfInBounds_toArray, List.set_cons_zero, List.set_cons_succ]
            refine done (by kernel_rfl) ?_ _
            have HB2 := Lib.hid (below_trans HBa.out hU.b)
            clear hU hb5 eC hc HLO HBa
            go_wp2
            go_roundw
            case rel => exact ⟨a + 1, haj1, by go_num, HN2, HB2⟩
            case measure => simp [intOf]; omega
          · have eC : ∀ W : World, (binOp .leq 3 (.int .i64 C) (.int .i64 0)).run Tryz.prog W = .ok (.bool false) W := fun W => by simp [go_sem]; omega
            have HHI : Hid (∀ u, m[a]? = some u → 0 < cmpV u l[j]) := Lib.hid (fun u hu => by
              have := HMA.out.symm.trans hu
              cases this
              rw [← HCE.out]; omega)
            clear hC0
            go_wp2
            refine plain_region_draws (fun W => TwoE wr go (oo + a * 6) xo gl (ol + j * 6) xl W) (by kernel_rfl) hU (fun hU => ?_)
            refine take 0 13 (v := .int .i64 (a : Int)) rfl rfl (by kernel_rfl) (by kernel_rfl) (by kernel_rfl) rfl (fun W hW => exec_move rfl rfl) (by assumption) ?_
            simp only [Act.put, List.setIfInBounds_toArray, List.set_cons_zero, List.set_cons_succ]
            refine take 1 14 (v := .slice (some ⟨go, oo, none⟩) j co) rfl rfl (by kernel_rfl) (by kernel_rfl) (by kernel_rfl) rfl (fun W hW => exec_move rfl rfl) (by assumption) ?_
            simp only [Act.put, List.setIfInBounds_toArray, List.set_cons_zero, List.set_cons_succ]
            refine take 2 15 (v := .int .i64 (j : Int)) rfl rfl (by kernel_rfl) (by kernel_rfl) (by kernel_rfl) rfl (fun W hW => exec_lenV rfl rfl) (by assumption) ?_
            simp only [Act.put, List.setIfInBounds_toArray, List.set_cons_zero, List.set_cons_succ]
            refine take 3 16 (v := .bool true) rfl rfl (by kernel_rfl) (by kernel_rfl) (by kernel_rfl) rfl (fun W hW => exec_bini rfl rfl rfl (hc W)) (by assumption) ?_
            simp only [Act.put, List.setIfInBounds_toArray, List.set_cons_zero, List.set_cons_succ]
            refine take 4 17 (v := .bool true) rfl rfl (by kernel_rfl) (by kernel_rfl) (by kernel_rfl) rfl (fun W hW => exec_move rfl rfl) (by assumption) ?_
            simp only [Act.put, List.setIfInBounds_toArray, List.set_cons_zero, List.set_cons_succ]
            refine take 5 18 (v := .slice (some ⟨go, oo, none⟩) j co) rfl rfl (by kernel_rfl) (by kernel_rfl) (by kernel_rfl) rfl (fun W hW => exec_move rfl rfl) (by assumption) ?_
            simp only [Act.put, List.setIfInBounds_toArray, List.set_cons_zero, List.set_cons_succ]
            refine take 6 19 (v := .int .i64 (a : Int)) rfl rfl (by kernel_rfl) (by kernel_rfl) (by kernel_rfl) rfl (fun W hW => exec_move rfl rfl) (by assumption) ?_
            simp only [Act.put, List.setIfInBounds_toArray, List.set_cons_zero, List.set_cons_succ]
            refine take 7 20 (v := .pointer (some ⟨go, oo + a * 6, none⟩)) rfl rfl (by kernel_rfl) (by kernel_rfl) (by kernel_rfl) rfl (fun W hW => exec_indexAddr rfl rfl rfl (ia_vals _ _ _ _ _ haj W)) (by assumption) ?_
            simp only [Act.put, List.setIfInBounds_toArray, List.set_cons_zero, List.set_cons_succ]
            refine take 8 21 (v := .agg xo) rfl rfl (by kernel_rfl) (by kernel_rfl) (by kernel_rfl) rfl (fun W hW => exec_load rfl rfl (load_six hW.one)) (by assumption) ?_
            simp only [Act.put, List.setIfInBounds_toArray, List.set_cons_zero, List.set_cons_succ]
            refine take 9 22 (v := .slice (some ⟨gl, ol, none⟩) l.length c) rfl rfl (by kernel_rfl) (by kernel_rfl) (by kernel_rfl) rfl (fun W hW => exec_move rfl rfl) (by assumption) ?_
            simp only [Act.put, List.setIfInBounds_toArray, List.set_cons_zero, List.set_cons_succ]
            refine take 10 23 (v := .int .i64 (j : Int)) rfl rfl (by kernel_rfl) (by kernel_rfl) (by kernel_rfl) rfl (fun W hW => exec_move rfl rfl) (by assumption) ?_
            simp only [Act.put, List.setIfInBounds_toArray, List.set_cons_zero, List.set_cons_succ]
            refine take 11 24 (v := .pointer (some ⟨gl, ol + j * 6, none⟩)) rfl rfl (by kernel_rfl) (by kernel_rfl) (by kernel_rfl) rfl (fun W hW => exec_indexAddr rfl rfl rfl (ia_vals _ _ _ _ _ hlt W)) (by assumption) ?_
            simp only [Act.put, List.setIfInBounds_toArray, List.set_cons_zero, List.set_cons_succ]
            refine take 12 25 (v := .agg xl) rfl rfl (by kernel_rfl) (by kernel_rfl) (by kernel_rfl) rfl (fun W hW => exec_load rfl rfl (load_six hW.two)) (by assumption) ?_
            simp only [Act.put, List.setIfInBounds_toArray, List.set_cons_zero, List.set_cons_succ]
            refine onlyCall 13 26 rfl rfl (by kernel_rfl) rfl (exec_call [.agg xo, .agg xl] rfl rfl Tryz.func19 (by kernel_rfl) (by kernel_rfl)) ?_
            refine (HQ.out _ hU.b).mono ?_
            rintro e w5 ⟨rfl, hb5⟩
            replace hU := hU.keep hb5
            refine ⟨_, rfl, .inr (by assumption), ?_⟩
            simp only [Act.put, List.setIfInBounds_toArray, List.set_cons_zero, List.set_cons_succ]
            refine take 14 27 (v := .bool false) rfl rfl (by kernel_rfl) (by kernel_rfl) (by kernel_rfl) rfl (fun W hW => exec_bini rfl rfl rfl (eC W)) (by assumption) ?_
            simp only [Act.put, List.setIfInBounds_toArray, List.set_cons_zero, List.set_cons_succ]
            refine take 15 28 (v := .bool false) rfl rfl (by kernel_rfl) (by kernel_rfl) (by kernel_rfl) rfl (fun W hW => rfl) (by assumption) ?_
            simp only [Act.put, List.setIfInBounds_toArray, List.set_cons_zero, List.set_cons_succ]
            refine done (by kernel_rfl) ?_ _
            replace HBa := Lib.hid (below_trans HBa.out hU.b)
            clear hU hb5 eC hc HQ
            have hM := HO.out.1.below HBa.out
            obtain ⟨p1, p2, c1, c2, v1, v2, v3, W1, W2, W3, s1, t1, g1, t2, s2, t3, hR, g3⟩ := cutV_any hM (Nat.le_trans HO.out.2.1.size HBa.out.size) HV.out.1 (show a ≤ m.length by rw [HO.out.2.2.2]; exact ha) (by rw [HO.out.2.2.2]; omega)
            have HS1 := Lib.hid (fun W => (run_sliceAt_gen Tryz.underlying24 _ _ _ _ W).trans (s1 W))
            have HS2 := Lib.hid (fun W => (run_sliceAt_gen Tryz.underlying24 _ _ _ _ W).trans (s2 W))
            have HT1 := Lib.hid t1
            have HT2 := Lib.hid t2
            have HT3 := Lib.hid t3
            have hbb := below_trans (below_trans HO.out.2.1 HBa.out) g1
            have e0 := belowCell hbb (ltOf HV.out.2.1) HV.out.2.1
            have e1 := belowCell hbb (ltOf HV.out.2.2.1) HV.out.2.2.1
            have e2 := belowCell hbb (ltOf HV.out.2.2.2.1) HV.out.2.2.2.1
            have e3 := belowCell hbb (ltOf HV.out.2.2.2.2.1) HV.out.2.2.2.2.1
            have e4 := belowCell hbb (ltOf HV.out.2.2.2.2.2.1) HV.out.2.2.2.2.2.1
            have e5 := belowCell hbb (ltOf HV.out.2.2.2.2.2.2) HV.out.2.2.2.2.2.2
            have HN := Lib.hid (show SrI w0 w W3 v3 l (j + 1) (m.take a ++ [l[j]] ++ m.drop a) from ⟨hR, below_trans (below_trans HO.out.2.1 HBa.out) g3, srt_step HO.out.2.2.1 hlt HLO.out HHI.out, by
              have h1 := HO.out.2.2.2; simp only [List.length_append, List.length_take, List.length_drop, List.length_cons, List.length_nil]; omega⟩)
            clear hM s1 t1 g1 t2 s2 t3 hR g3 hbb
            go_wp2_with (first
              | (refine wpList_run rfl (exec_slice rfl rfl rfl rfl rfl (HS1.out _)) ?_; clear HS1)
              | (refine wpList_run rfl (exec_append rfl rfl rfl HT1.out) ?_; clear HT1)
              | (refine wpList_run rfl (exec_append rfl rfl rfl HT2.out) ?_; clear HT2)
              | (refine wpList_run rfl (exec_slice rfl rfl rfl rfl rfl (HS2.out _)) ?_; clear HS2)
              | (refine wpList_run rfl (exec_append rfl rfl rfl HT3.out) ?_; clear HT3))
            go_roundw
            case rel => exact ⟨j + 1, _, _, hlt1, by go_num, rfl, HN⟩
            case measure => simp [intOf]; omega
        · obtain rfl : a = j := by omega
          have hc : ∀ W : World, (binOp .lss 3 (.int .i64 (a : Int)) (.int .i64 (a : Int))).run Tryz.prog W = .ok (.bool false) W := by
            intro W; simp [go_sem]
          have HHI : Hid (∀ u, m[a]? = some u → 0 < cmpV u l[a]) := Lib.hid (fun u hu => by
            have h1 := (List.getElem?_eq_some_iff.1 hu).1
            have h2 := HO.out.2.2.2
            omega)
          have hU : Below wr.heap.size wr wr.drew := (Below.refl _ _).drew
          go_wp2
          refine plain_region_draws (fun W => Below wr.heap.size wr W) (by kernel_rfl) hU (fun hU => ?_)
          refine take 0 13 (v := .int .i64 (a : Int)) rfl rfl (by kernel_rfl) (by kernel_rfl) (by kernel_rfl) rfl (fun W hW => exec_move rfl rfl) (by assumption) ?_
          simp only [Act.put, List.setIfInBounds_toArray, List.set_cons_zero, List.set_cons_succ]
          refine take 1 14 (v := .slice po a co) rfl rfl (by kernel_rfl) (by kernel_rfl) (by kernel_rfl) rfl (fun W hW => exec_move rfl rfl) (by assumption) ?_
          simp only [Act.put, List.setIfInBounds_toArray, List.set_cons_zero, List.set_cons_succ]
          refine take 2 15 (v := .int .i64 (a : Int)) rfl rfl (by kernel_rfl) (by kernel_rfl) (by kernel_rfl) rfl (fun W hW => exec_lenV rfl rfl) (by assumption) ?_
          simp only [Act.put, List.setIfInBounds_toArray, List.set_cons_zero, List.set_cons_succ]
          refine take 3 16 (v := .bool false) rfl rfl (by kernel_rfl) (by kernel_rfl) (by kernel_rfl) rfl (fun W hW => exec_bini rfl rfl rfl (hc W)) (by assumption) ?_
          simp only [Act.put, List.setIfInBounds_toArray, List.set_cons_zero, List.set_cons_succ]
          refine take 4 17 (v := .bool false) rfl rfl (by kernel_rfl) (by kernel_rfl) (by kernel_rfl) rfl (fun W hW => exec_move rfl rfl) (by assumption) ?_
          simp only [Act.put, List.setIfInBounds_toArray, List.set_cons_zero, List.set_cons_succ]
          refine takeNot 5 18 rfl rfl (by kernel_rfl) (by kernel_rfl) (by kernel_rfl) rfl (by assumption) ?_
          simp only [Act.put, List.setIfInBounds_toArray, List.set_cons_zero, List.set_cons_succ]
          refine takeNot 6 19 rfl rfl (by kernel_rfl) (by kernel_rfl) (by kernel_rfl) rfl (by assumption) ?_
          simp only [Act.put, List.setIfInBounds_toArray, List.set_cons_zero, List.set_cons_succ]
          refine takeNot 7 20 rfl rfl (by kernel_rfl) (by kernel_rfl) (by kernel_rfl) rfl (by assumption) ?_
          simp only [Act.put, List.setIfInBounds_toArray, List.set_cons_zero, List.set_cons_succ]
          refine takeNot 8 21 rfl rfl (by kernel_rfl) (by kernel_rfl) (by kernel_rfl) rfl (by assumption) ?_
          simp only [Act.put, List.setIfInBounds_toArray, List.set_cons_zero, List.set_cons_succ]
          refine takeNot 9 22 rfl rfl (by kernel_rfl) (by kernel_rfl) (by kernel_rfl) rfl (by assumption) ?_
          simp only [Act.put, List.setIfInBounds_toArray, List.set_cons_zero, List.set_cons_succ]
          refine takeNot 10 23 rfl rfl (by kernel_rfl) (by kernel_rfl) (by kernel_rfl) rfl (by assumption) ?_
          simp only [Act.put, List.setIfInBounds_toArray, List.set_cons_zero, List.set_cons_succ]
          refine takeNot 11 24 rfl rfl (by kernel_rfl) (by kernel_rfl) (by kernel_rfl) rfl (by assumption) ?_
          simp only [Act.put, List.setIfInBounds_toArray, List.set_cons_zero, List.set_cons_succ]
          refine takeNot 12 25 rfl rfl (by kernel_rfl) (by kernel_rfl) (by kernel_rfl) rfl (by assumption) ?_
          simp only [Act.put, List.setIfInBounds_toArray, List.set_cons_zero, List.set_cons_succ]
          refine onlyNot 13 26 rfl rfl (by kernel_rfl) rfl ?_ (.inr (by assumption))
          simp only [Act.put, List.setIfInBounds_toArray, List.set_cons_zero, List.set_cons_succ]
          refine takeNot 14 27 rfl rfl (by kernel_rfl) (by kernel_rfl) (by kernel_rfl) rfl (by assumption) ?_
          simp only [Act.put, List.setIfInBounds_toArray, List.set_cons_zero, List.set_cons_succ]
          refine take 15 28 (v := .bool false) rfl rfl (by kernel_rfl) (by kernel_rfl) (by kernel_rfl) rfl (fun W hW => rfl) (by assumption) ?_
          simp only [Act.put, List.setIfInBounds_toArray, List.set_cons_zero, List.set_cons_succ]
          refine done (by kernel_rfl) ?_ _
          replace HBa := Lib.hid (below_trans HBa.out hU)
          clear hU hc
          have hM := HO.out.1.below HBa.out
          obtain ⟨p1, p2, c1, c2, v1, v2, v3, W1, W2, W3, s1, t1, g1, t2, s2, t3, hR, g3⟩ := cutV_any hM (Nat.le_trans HO.out.2.1.size HBa.out.size) HV.out.1 (show a ≤ m.length by rw [HO.out.2.2.2]; exact ha) (by rw [HO.out.2.2.2]; omega)
          have HS1 := Lib.hid (fun W => (run_sliceAt_gen Tryz.underlying24 _ _ _ _ W).trans (s1 W))
          have HS2 := Lib.hid (fun W => (run_sliceAt_gen Tryz.underlying24 _ _ _ _ W).trans (s2 W))
          have HT1 := Lib.hid t1
          have HT2 := Lib.hid t2
          have HT3 := Lib.hid t3
          have hbb := below_trans (below_trans HO.out.2.1 HBa.out) g1
          have e0 := belowCell hbb (ltOf HV.out.2.1) HV.out.2.1
          have e1 := belowCell hbb (ltOf HV.out.2.2.1) HV.out.2.2.1
          have e2 := belowCell hbb (ltOf HV.out.2.2.2.1) HV.out.2.2.2.1
          have e3 := belowCell hbb (ltOf HV.out.2.2.2.2.1) HV.out.2.2.2.2.1
          have e4 := belowCell hbb (ltOf HV.out.2.2.2.2.2.1) HV.out.2.2.2.2.2.1
          have e5 := belowCell hbb (ltOf HV.out.2.2.2.2.2.2) HV.out.2.2.2.2.2.2
          have HN := Lib.hid (show SrI w0 w W3 v3 l (a + 1) (m.take a ++ [l[a]] ++ m.drop a) from ⟨hR, below_trans (below_trans HO.out.2.1 HBa.out) g3, srt_step HO.out.2.2.1 hlt HLO.out HHI.out, by
            have h1 := HO.out.2.2.2; simp only [List.length_append, List.length_take, List.length_drop, List.length_cons, List.length_nil]; omega⟩)
          clear hM s1 t1 g1 t2 s2 t3 hR g3 hbb
          go_wp2_with (first
            | (refine wpList_run rfl (exec_slice rfl rfl rfl rfl rfl (HS1.out _)) ?_; clear HS1)
            | (refine wpList_run rfl (exec_append rfl rfl rfl HT1.out) ?_; clear HT1)
            | (refine wpList_run rfl (exec_append rfl rfl rfl HT2.out) ?_; clear HT2)
            | (refine wpList_run rfl (exec_slice rfl rfl rfl rfl rfl (HS2.out _)) ?_; clear HS2)
            | (refine wpList_run rfl (exec_append rfl rfl rfl HT3.out) ?_; clear HT3))
          go_roundw
          case rel => exact ⟨a + 1, _, _, hlt1, by go_num, rfl, HN⟩
          case measure => simp [intOf]; omega
    · obtain rfl : j = l.length := by omega
      go_wp2
      go_ret
      have h := HO.out
      exact ⟨po, co, m, rfl, h.1, by have := h.2.2.1.1; rw [List.take_length] at this; exact this, h.2.2.1.2, h.2.1⟩
theorem zero_text {a b : V} (ha : mayV Lib.validD a = true) (hb : mayV Lib.validD b = true) : cmpV a b = 0 ↔ textV a = textV b :=
  ⟨fun h => by rw [cmpV_zero a ha b hb h], fun h => by rw [text_inj ha hb h]; exact (ord_cmpV b).self⟩
/-- Is a value among some, by the order? -/
def inV (v : V) (m : List V) : Bool := m.any fun u => decide (cmpV u v = 0)
theorem inV_snoc (v u : V) (m : List V) : inV v (m ++ [u]) = (inV v m || decide (cmpV u v = 0)) := by simp [inV]
theorem inV_text {v : V} {m : List V} (hv : mayV Lib.validD v = true) (hm : ∀ u ∈ m, mayV Lib.validD u = true) : inV v m = true ↔ textV v ∈ m.map textV := by
  unfold inV
  rw [List.any_eq_true, List.mem_map]
  constructor
  · rintro ⟨u, hu, h⟩
    exact ⟨u, hu, (zero_text (hm u hu) hv).1 (of_decide_eq_true h)⟩
  · rintro ⟨u, hu, h⟩
    exact ⟨u, hu, decide_eq_true ((zero_text (hm u hu) hv).2 h)⟩
theorem once_sub (l : List V) : ∀ v ∈ onceL l, v ∈ l := by
  have : ∀ (l out : List V), ∀ v ∈ l.foldl stepO out, v ∈ out ∨ v ∈ l := by
    intro l
    induction l with
    | nil => intro out v hv; exact .inl hv
    | cons a r ih =>
      intro out v hv
      rw [List.foldl_cons] at hv
      rcases ih _ v hv with h | h
      · unfold stepO at h
        split at h
        · exact .inl h
        · rcases List.mem_append.1 h with h | h
          · exact .inl h
          · rw [List.mem_singleton.1 h]; exact .inr (by simp)
      · exact .inr (by simp [h])
  intro v hv
  rcases this l [] v hv with h | h
  · cases h
  · exact h
/-- Each once so far, in a row of one's own. -/
def OnI (w0 w W : World) (o : Value) (l : List V) (j : Nat) : Prop := RowV w0 w.heap.size W o (onceL (l.take j)) ∧ Below w.heap.size w W
set_option maxRecDepth 100000 in
set_option maxHeartbeats 8000000 in
theorem onceR_any {w0 w : World} {p : Option Addr} {c : Nat} {l : List V} (hb0 : Below w0.heap.size w0 w) (hl : LRd w0 p c l) (hm : ∀ v ∈ l, mayV Lib.validD v = true) (hn : l.length ≤ 900000) :
    Calls Tryz.prog 57 #[.slice p l.length c] w fun e w' => ∃ pa ca, e = .returned (.slice pa (onceL l).length ca) ∧ RowV w0 w.heap.size w' (.slice pa (onceL l).length ca) (onceL l) ∧ Below w.heap.size w w' := by
  have z1 : (l.length : Int) ≤ 900000 := by omega
  have HL := Lib.hid hl
  have HM := Lib.hid hm
  have HB0 := Lib.hid hb0
  clear hl hm hb0
  go_enter Tryz.func57, Tryz.ntmps57
  go_wp2
  go_loopw [3, 4] (fun o i W => ∃ (j : Nat) (ov : Value), j ≤ l.length ∧ i = .int .i64 (j : Int) ∧ ov = o ∧ Hid (OnI w0 w W ov l j)) (fun _ i _ => l.length - (intOf i).toNat)
  case atStart => exact ⟨0, _, Nat.zero_le _, rfl, rfl, Lib.hid ⟨RowV.start _ _ _, Below.refl _ _⟩⟩
  case round =>
    obtain ⟨j, ov, hj, rfl, rfl, HO⟩ := hrel
    have hml := once_length (l.take j)
    rw [List.length_take] at hml
    obtain ⟨po, co, e, hro⟩ := HO.out.1.rd HB0.out.size (below_trans HB0.out HO.out.2) (by omega)
    by_cases hlt : j < l.length
    · have hlt1 : j + 1 ≤ l.length := hlt
      have hsn : onceL (l.take (j + 1)) = stepO (onceL (l.take j)) l[j] := by rw [List.take_succ_eq_append_getElem hlt, onceL_snoc]
      have hmm : ∀ u ∈ onceL (l.take j), mayV Lib.validD u = true := fun u hu => HM.out u (List.mem_of_mem_take (once_sub _ u hu))
      obtain ⟨m, hmd⟩ : ∃ m, m = onceL (l.take j) := ⟨_, rfl⟩
      have hrow : RowV w0 w.heap.size wr ov m := by rw [hmd]; exact HO.out.1
      rw [← hmd] at e hro hsn hmm hml
      obtain ⟨N, hN⟩ : ∃ N, N = m.length := ⟨_, rfl⟩
      have hNz : (N : Int) ≤ 900000 := by omega
      rw [← hN] at e
      subst e
      obtain ⟨gl, ol, pk1, ck1, pl1, cl1, rfl, ⟨b0, b1, b2, b3, b4, b5⟩, hv1⟩ := HL.out.at hlt
      replace b0 := belowCell HB0.out (ltOf b0) b0
      replace b1 := belowCell HB0.out (ltOf b1) b1
      replace b2 := belowCell HB0.out (ltOf b2) b2
      replace b3 := belowCell HB0.out (ltOf b3) b3
      replace b4 := belowCell HB0.out (ltOf b4) b4
      replace b5 := belowCell HB0.out (ltOf b5) b5
      have h6 : Six w gl (ol + j * 6) #[.int .i64 l[j].kind, .bool l[j].b, .int .i64 l[j].n, .string (strB l[j].text), .slice pk1 l[j].keys.length ck1, .slice pl1 l[j].list.length cl1] := ⟨_, _, _, _, _, _, rfl, b0, b1, b2, b3, b4, b5⟩
      have HV := Lib.hid (And.intro hv1 (And.intro b0 (And.intro b1 (And.intro b2 (And.intro b3 (And.intro b4 b5))))))
      have H6 := Lib.hid h6
      have HRO := Lib.hid hro
      have HP := Lib.hid (And.intro hrow (And.intro HO.out.2 (And.intro hsn (And.intro hmm (And.intro hN (show m.length ≤ 900000 by omega))))))
      have hmj := HM.out _ (List.getElem_mem hlt)
      generalize l[j] = s1 at *
      have HMJ := Lib.hid hmj
      clear b0 b1 b2 b3 b4 b5 hv1 h6 hro hsn hmm hN hrow hmd HO hmj hml
      go_wp2
      generalize wr = Wj at *
      go_loopw [5, 6] (fun t i W => ∃ (a : Nat) (b : Bool), a ≤ N ∧ i = .int .i64 (a : Int) ∧ t = .bool b ∧ Hid (b = inV s1 (m.take a)) ∧ Hid (Below Wj.heap.size Wj W)) (fun _ i _ => N - (intOf i).toNat)
      case atStart => exact ⟨0, false, Nat.zero_le _, rfl, rfl, Lib.hid rfl, Lib.hid (Below.refl _ _)⟩
      case round =>
        obtain ⟨a, b, ha, rfl, rfl, HI, HBa⟩ := hrel
        by_cases haj : a < N
        · have haj1 : a + 1 ≤ N := haj
          have ham : a < m.length := by rw [← HP.out.2.2.2.2.1]; exact haj
          have htk : inV s1 (m.take (a + 1)) = (inV s1 (m.take a) || decide (cmpV m[a] s1 = 0)) := by rw [List.take_succ_eq_append_getElem ham, inV_snoc]
          rw [← HI.out] at htk
          obtain ⟨go, oo, xo, eo, o6, ov6⟩ := HRO.out.get ham
          subst eo
          have hbw : Below w.heap.size w wr := below_trans HP.out.2.1 HBa.out
          have HQ := Lib.hid (fun (W : World) (hb : Below wr.heap.size wr W) => compareR_any m[a] (HP.out.2.2.2.1 _ (List.getElem_mem ham)) s1 HMJ.out W xo _ (ov6.below (below_trans HBa.out hb)) (HV.out.1.below (below_trans HB0.out (below_trans hbw hb))))
          have hU := TwoE.start (o6.below HBa.out) (H6.out.below hbw)
          generalize cmpV m[a] s1 = C at *
          have HTK := Lib.hid htk
          generalize hxl : (#[Value.int .i64 s1.kind, .bool s1.b, .int .i64 s1.n, .string (strB s1.text), .slice pk1 s1.keys.length ck1, .slice pl1 s1.list.length cl1] : Array Value) = xl at HQ hU
          have HXL := Lib.hid hxl
          clear hxl o6 ov6 hbw ham htk
          cases b with
          | true =>
            go_wp2
            refine plain_region_draws (fun W => TwoE wr go (oo + a * 6) xo gl (ol + j * 6) xl W) (by kernel_rfl) hU (fun hU => ?_)
            refine take 0 19 (v := .bool true) rfl rfl (by kernel_rfl) (by kernel_rfl) (by kernel_rfl) rfl (fun W hW => exec_move rfl rfl) (by assumption) ?_
            simp only [Act.put, List.setIfInBounds_toArray, List.set_cons_zero, List.set_cons_succ]
            refine take 1 20 (v := .bool true) rfl rfl (by kernel_rfl) (by kernel_rfl) (by kernel_rfl) rfl (fun W hW => exec_move rfl rfl) (by assumption) ?_
            simp only [Act.put, List.setIfInBounds_toArray, List.set_cons_zero, List.set_cons_succ]
            refine takeNot 2 21 rfl rfl (by kernel_rfl) (by kernel_rfl) (by kernel_rfl) rfl (by assumption) ?_
            simp only [Act.put, List.setIfInBounds_toArray, List.set_cons_zero, List.set_cons_succ]
            refine takeNot 3 22 rfl rfl (by kernel_rfl) (by kernel_rfl) (by kernel_rfl) rfl (by assumption) ?_
            simp only [Act.put, List.setIfInBounds_toArray, List.set_cons_zero, List.set_cons_succ]
            refine takeNot 4 23 rfl rfl (by kernel_rfl) (by kernel_rfl) (by kernel_rfl) rfl (by assumption) ?_
            simp only [Act.put, List.setIfInBounds_toArray, List.set_cons_zero, List.set_cons_succ]
            refine takeNot 5 24 rfl rfl (by kernel_rfl) (by kernel_rfl) (by kernel_rfl) rfl (by assumption) ?_
            simp only [Act.put, List.setIfInBounds_toArray, List.set_cons_zero, List.set_cons_succ]
            refine takeNot 6 25 rfl rfl (by kernel_rfl) (by kernel_rfl) (by kernel_rfl) rfl (by assumption) ?_
            simp only [Act.put, List.setIfInBounds_toArray, List.set_cons_zero, List.set_cons_succ]
            refine takeNot 7 26 rfl rfl (by kernel_rfl) (by kernel_rfl) (by kernel_rfl) rfl (by assumption) ?_
            simp only [Act.put, List.setIfInBounds_toArray, List.set_cons_zero, List.set_cons_succ]
            refine takeNot 8 27 rfl rfl (by kernel_rfl) (by kernel_rfl) (by kernel_rfl) rfl (by assumption) ?_
            simp only [Act.put, List.setIfInBounds_toArray, List.set_cons_zero, List.set_cons_succ]
            refine takeNot 9 28 rfl rfl (by kernel_rfl) (by kernel_rfl) (by kernel_rfl) rfl (by assumption) ?_
            simp only [Act.put, List.setIfInBounds_toArray, List.set_cons_zero, List.set_cons_succ]
            refine onlyNot 10 29 rfl rfl (by kernel_rfl) rfl ?_ (.inr (by assumption))
            simp only [Act.put, List.setIfInBounds_toArray, List.set_cons_zero, List.set_cons_succ]
            refine takeNot 11 30 rfl rfl (by kernel_rfl) (by kernel_rfl) (by kernel_rfl) rfl (by assumption) ?_
            simp only [Act.put, List.setIfInBounds_toArray, List.set_cons_zero, List.set_cons_succ]
            refine take 12 31 (v := .bool true) rfl rfl (by kernel_rfl) (by kernel_rfl) (by kernel_rfl) rfl (fun W hW => rfl) (by assumption) ?_
            simp only [Act.put, List.setIfInBounds_toArray, List.set_cons_zero, List.set_cons_succ]
            refine take 13 5 (v := .bool true) rfl rfl (by kernel_rfl) (by kernel_rfl) (by kernel_rfl) rfl (fun W hW => exec_assign rfl rfl) (by assumption) ?_
            simp only [Act.put, List.setIfInBounds_toArray, List.set_cons_zero, List.set_cons_succ]
            refine done (by kernel_rfl) ?_ _
            have HB2 := Lib.hid (below_trans HBa.out hU.b)
            clear hU
            go_wp2
            go_roundw
            case rel => exact ⟨a + 1, true, haj1, by go_num, rfl, Lib.hid (by rw [HTK.out]; rfl), HB2⟩
            case measure => simp [intOf]; omega
          | false =>
            by_cases hC0 : C = 0
            · have eC : ∀ W : World, (binOp .eql 3 (.int .i64 C) (.int .i64 0)).run Tryz.prog W = .ok (.bool true) W := fun W => by simp [go_sem, hC0]
              have HT2 : Hid (true = inV s1 (m.take (a + 1))) := Lib.hid (by rw [HTK.out, hC0]; rfl)
              clear hC0
              go_wp2
              refine plain_region_draws (fun W => TwoE wr go (oo + a * 6) xo gl (ol + j * 6) xl W) (by kernel_rfl) hU (fun hU => ?_)
              refine take 0 19 (v := .bool false) rfl rfl (by kernel_rfl) (by kernel_rfl) (by kernel_rfl) rfl (fun W hW => exec_move rfl rfl) (by assumption) ?_
              simp only [Act.put, List.setIfInBounds_toArray, List.set_cons_zero, List.set_cons_succ]
              refine take 1 20 (v := .bool false) rfl rfl (by kernel_rfl) (by kernel_rfl) (by kernel_rfl) rfl (fun W hW => exec_move rfl rfl) (by assumption) ?_
              simp only [Act.put, List.setIfInBounds_toArray, List.set_cons_zero, List.set_cons_succ]
              refine take 2 21 (v := .slice (some ⟨go, oo, none⟩) N co) rfl rfl (by kernel_rfl) (by kernel_rfl) (by kernel_rfl) rfl (fun W hW => exec_move rfl rfl) (by assumption) ?_
              simp only [Act.put, List.setIfInBounds_toArray, List.set_cons_zero, List.set_cons_succ]
              refine take 3 22 (v := .int .i64 (a : Int)) rfl rfl (by kernel_rfl) (by kernel_rfl) (by kernel_rfl) rfl (fun W hW => exec_move rfl rfl) (by assumption) ?_
              simp only [Act.put, List.setIfInBounds_toArray, List.set_cons_zero, List.set_cons_succ]
              refine take 4 23 (v := .pointer (some ⟨go, oo + a * 6, none⟩)) rfl rfl (by kernel_rfl) (by kernel_rfl) (by kernel_rfl) rfl (fun W hW => exec_indexAddr rfl rfl rfl (ia_vals _ _ _ _ _ haj W)) (by assumption) ?_
              simp only [Act.put, List.setIfInBounds_toArray, List.set_cons_zero, List.set_cons_succ]
              refine take 5 24 (v := .agg xo) rfl rfl (by kernel_rfl) (by kernel_rfl) (by kernel_rfl) rfl (fun W hW => exec_load rfl rfl (load_six hW.one)) (by assumption) ?_
              simp only [Act.put, List.setIfInBounds_toArray, List.set_cons_zero, List.set_cons_succ]
              refine take 6 25 (v := .slice (some ⟨gl, ol, none⟩) l.length c) rfl rfl (by kernel_rfl) (by kernel_rfl) (by kernel_rfl) rfl (fun W hW => exec_move rfl rfl) (by assumption) ?_
              simp only [Act.put, List.setIfInBounds_toArray, List.set_cons_zero, List.set_cons_succ]
              refine take 7 26 (v := .int .i64 (j : Int)) rfl rfl (by kernel_rfl) (by kernel_rfl) (by kernel_rfl) rfl (fun W hW => exec_move rfl rfl) (by assumption) ?_
              simp only [Act.put, List.setIfInBounds_toArray, List.set_cons_zero, List.set_cons_succ]
              refine take 8 27 (v := .pointer (some ⟨gl, ol + j * 6, none⟩)) rfl rfl (by kernel_rfl) (by kernel_rfl) (by kernel_rfl) rfl (fun W hW => exec_indexAddr rfl rfl rfl (ia_vals _ _ _ _ _ hlt W)) (by assumption) ?_
              simp only [Act.put, List.setIfInBounds_toArray, List.set_cons_zero, List.set_cons_succ]
              refine take 9 28 (v := .agg xl) rfl rfl (by kernel_rfl) (by kernel_rfl) (by kernel_rfl) rfl (fun W hW => exec_load rfl rfl (load_six hW.two)) (by assumption) ?_
              simp only [Act.put, List.setIfInBounds_toArray, List.set_cons_zero, List.set_cons_succ]
              refine onlyCall 10 29 rfl rfl (by kernel_rfl) rfl (exec_call [.agg xo, .agg xl] rfl rfl Tryz.func19 (by kernel_rfl) (by kernel_rfl)) ?_
              refine (HQ.out _ hU.b).mono ?_
              rintro e w5 ⟨rfl, hb5⟩
              replace hU := hU.keep hb5
              refine ⟨_, rfl, .inr (by assumption), ?_⟩
              simp only [Act.put, List.setIfInBounds_toArray, List.set_cons_zero, List.set_cons_succ]
              refine take 11 30 (v := .bool true) rfl rfl (by kernel_rfl) (by kernel_rfl) (by kernel_rfl) rfl (fun W hW => exec_bini rfl rfl rfl (eC W)) (by assumption) ?_
              simp only [Act.put, List.setIfInBounds_toArray, List.set_cons_zero, List.set_cons_succ]
              refine take 12 31 (v := .bool true) rfl rfl (by kernel_rfl) (by kernel_rfl) (by kernel_rfl) rfl (fun W hW => rfl) (by assumption) ?_
              simp only [Act.put, List.setIfInBounds_toArray, List.set_cons_zero, List.set_cons_succ]
              refine take 13 5 (v := .bool true) rfl rfl (by kernel_rfl) (by kernel_rfl) (by kernel_rfl) rfl (fun W hW => exec_assign rfl rfl) (by assumption) ?_
              simp only [Act.put, List.setIfInBounds_toArray, List.set_cons_zero, List.set_cons_succ]
              refine done (by kernel_rfl) ?_ _
              have HB2 := Lib.hid (below_trans HBa.out hU.b)
              clear hU hb5 eC
              go_wp2
              go_roundw
              case rel => exact ⟨a + 1, true, haj1, by go_num, rfl, HT2, HB2⟩
              case measure => simp [intOf]; omega
            · have eC : ∀ W : World, (binOp .eql 3 (.int .i64 C) (.int .i64 0)).run Tryz.prog W = .ok (.bool false) W := fun W => by simp [go_sem, hC0]
              have HT2 : Hid (false = inV s1 (m.take (a + 1))) := Lib.hid (by rw [HTK.out]; simp [hC0])
              clear hC0
              go_wp2
              refine plain_region_draws (fun W => TwoE wr go (oo + a * 6) xo gl (ol + j * 6) xl W) (by kernel_rfl) hU (fun hU => ?_)
              refine take 0 19 (v := .bool false) rfl rfl (by kernel_rfl) (by kernel_rfl) (by kernel_rfl) rfl (fun W hW => exec_move rfl rfl) (by assumption) ?_
              simp only [Act.put, List.setIfInBounds_toArray, List.set_cons_zero, List.set_cons_succ]
              refine take 1 20 (v := .bool false) rfl rfl (by kernel_rfl) (by kernel_rfl) (by kernel_rfl) rfl (fun W hW => exec_move rfl rfl) (by assumption) ?_
              simp only [Act.put, List.setIfInBounds_toArray, List.set_cons_zero, List.set_cons_succ]
              refine take 2 21 (v := .slice (some ⟨go, oo, none⟩) N co) rfl rfl (by kernel_rfl) (by kernel_rfl) (by kernel_rfl) rfl (fun W hW => exec_move rfl rfl) (by assumption) ?_
              simp only [Act.put, List.setIfInBounds_toArray, List.set_cons_zero, List.set_cons_succ]
              refine take 3 22 (v := .int .i64 (a : Int)) rfl rfl (by kernel_rfl) (by kernel_rfl) (by kernel_rfl) rfl (fun W hW => exec_move rfl rfl) (by assumption) ?_
              simp only [Act.put, List.setIfInBounds_toArray, List.set_cons_zero, List.set_cons_succ]
              refine take 4 23 (v := .pointer (some ⟨go, oo + a * 6, none⟩)) rfl rfl (by kernel_rfl) (by kernel_rfl) (by kernel_rfl) rfl (fun W hW => exec_indexAddr rfl rfl rfl (ia_vals _ _ _ _ _ haj W)) (by assumption) ?_
              simp only [Act.put, List.setIfInBounds_toArray, List.set_cons_zero, List.set_cons_succ]
              refine take 5 24 (v := .agg xo) rfl rfl (by kernel_rfl) (by kernel_rfl) (by kernel_rfl) rfl (fun W hW => exec_load rfl rfl (load_six hW.one)) (by assumption) ?_
              simp only [Act.put, List.setIfInBounds_toArray, List.set_cons_zero, List.set_cons_succ]
              refine take 6 25 (v := .slice (some ⟨gl, ol, none⟩) l.length c) rfl rfl (by kernel_rfl) (by kernel_rfl) (by kernel_rfl) rfl (fun W hW => exec_move rfl rfl) (by assumption) ?_
              simp only [Act.put, List.setIfInBounds_toArray, List.set_cons_zero, List.set_cons_succ]
              refine take 7 26 (v := .int .i64 (j : Int)) rfl rfl (by kernel_rfl) (by kernel_rfl) (by kernel_rfl) rfl (fun W hW => exec_move rfl rfl) (by assumption) ?_
              simp only [Act.put, List.setIfInBounds_toArray, List.set_cons_zero, List.set_cons_succ]
              refine take 8 27 (v := .pointer (some ⟨gl, ol + j * 6, none⟩)) rfl rfl (by kernel_rfl) (by kernel_rfl) (by kernel_rfl) rfl (fun W hW => exec_indexAddr rfl rfl rfl (ia_vals _ _ _ _ _ hlt W)) (by assumption) ?_
              simp only [Act.put, List.setIfInBounds_toArray, List.set_cons_zero, List.set_cons_succ]
              refine take 9 28 (v := .agg xl) rfl rfl (by kernel_rfl) (by kernel_rfl) (by kernel_rfl) rfl (fun W hW => exec_load rfl rfl (load_six hW.two)) (by assumption) ?_
              simp only [Act.put, List.setIfInBounds_toArray, List.set_cons_zero, List.set_cons_succ]
              refine onlyCall 10 29 rfl rfl (by kernel_rfl) rfl (exec_call [.agg xo, .agg xl] rfl rfl Tryz.func19 (by kernel_rfl) (by kernel_rfl)) ?_
              refine (HQ.out _ hU.b).mono ?_
              rintro e w5 ⟨rfl, hb5⟩
              replace hU := hU.keep hb5
              refine ⟨_, rfl, .inr (by assumption), ?_⟩
              simp only [Act.put, List.setIfInBounds_toArray, List.set_cons_zero, List.set_cons_succ]
              refine take 11 30 (v := .bool false) rfl rfl (by kernel_rfl) (by kernel_rfl) (by kernel_rfl) rfl (fun W hW => exec_bini rfl rfl rfl (eC W)) (by assumption) ?_
              simp only [Act.put, List.setIfInBounds_toArray, List.set_cons_zero, List.set_cons_succ]
              refine take 12 31 (v := .bool false) rfl rfl (by kernel_rfl) (by kernel_rfl) (by kernel_rfl) rfl (fun W hW => rfl) (by assumption) ?_
              simp only [Act.put, List.setIfInBounds_toArray, List.set_cons_zero, List.set_cons_succ]
              refine take 13 5 (v := .bool false) rfl rfl (by kernel_rfl) (by kernel_rfl) (by kernel_rfl) rfl (fun W hW => exec_assign rfl rfl) (by assumption) ?_
              simp only [Act.put, List.setIfInBounds_toArray, List.set_cons_zero, List.set_cons_succ]
              refine done (by kernel_rfl) ?_ _
              have HB2 := Lib.hid (below_trans HBa.out hU.b)
              clear hU hb5 eC
              go_wp2
              go_roundw
              case rel => exact ⟨a + 1, false, haj1, by go_num, rfl, HT2, HB2⟩
              case measure => simp [intOf]; omega
        · obtain rfl : a = N := by omega
          have hin : b = inV s1 m := by have := HI.out; rw [HP.out.2.2.2.2.1, List.take_length] at this; exact this
          have hit := inV_text HMJ.out HP.out.2.2.2.1
          rw [← hin] at hit
          have hbw : Below w.heap.size w wr := below_trans HP.out.2.1 HBa.out
          have e0 := belowCell hbw (ltOf HV.out.2.1) HV.out.2.1
          have e1 := belowCell hbw (ltOf HV.out.2.2.1) HV.out.2.2.1
          have e2 := belowCell hbw (ltOf HV.out.2.2.2.1) HV.out.2.2.2.1
          have e3 := belowCell hbw (ltOf HV.out.2.2.2.2.1) HV.out.2.2.2.2.1
          have e4 := belowCell hbw (ltOf HV.out.2.2.2.2.2.1) HV.out.2.2.2.2.2.1
          have e5 := belowCell hbw (ltOf HV.out.2.2.2.2.2.2) HV.out.2.2.2.2.2.2
          have hr1 := HP.out.1.below HBa.out
          cases b with
          | true =>
            have HN : Hid (OnI w0 w wr (.slice po a co) l (j + 1)) := Lib.hid ⟨by
              have h1 : stepO m s1 = m := by unfold stepO; rw [if_pos (hit.1 rfl)]
              rw [HP.out.2.2.1, h1]; exact hr1, hbw⟩
            clear hin hit hbw hr1
            go_wp2
            go_roundw
            case rel => exact ⟨j + 1, _, hlt1, by go_num, rfl, HN⟩
            case measure => simp [intOf]; omega
          | false =>
            have hbn := below_new (w := wr) (.cells #[.int .i64 s1.kind, .bool s1.b, .int .i64 s1.n, .string (strB s1.text), .slice pk1 s1.keys.length ck1, .slice pl1 s1.list.length cl1] 26)
            have hln : m.length + [s1].length ≤ 1000000 := by have := HP.out.2.2.2.2.2; simp; omega
            obtain ⟨v', W2, ha2, hr2, hlo⟩ := (hr1.below hbn).step (PieceV.one HV.out.1 (heap_alloc_new wr _)) (Nat.le_trans hbw.size hbn.size) hln (fun h => by cases h) 24
            have HN : Hid (OnI w0 w W2 v' l (j + 1)) := Lib.hid ⟨by
              have h1 : stepO m s1 = m ++ [s1] := by unfold stepO; rw [if_neg (fun h => by have := hit.2 h; cases this)]
              rw [HP.out.2.2.1, h1]; exact hr2, (below_trans hbw hbn).trans hlo⟩
            have Ha : Hid ((Builtin.append_ #[24, 24] 24 #[.slice po a co, .slice (some ⟨wr.heap.size, 0, none⟩) 1 1]).run Tryz.prog (wr.alloc (.cells #[.int .i64 s1.kind, .bool s1.b, .int .i64 s1.n, .string (strB s1.text), .slice pk1 s1.keys.length ck1, .slice pl1 s1.list.length cl1] 26)) = .ok v' W2) := Lib.hid ha2
            clear hin hit hbw hr1 hbn ha2 hr2 hlo hln
            go_wp2_with (refine wpList_append rfl rfl rfl rfl Ha.out ?_)
            go_roundw
            case rel => exact ⟨j + 1, _, hlt1, by go_num, rfl, HN⟩
            case measure => simp [intOf]; omega
    · obtain rfl : j = l.length := by omega
      subst e
      have hrow := HO.out.1
      rw [List.take_length] at hrow ⊢
      have HF := Lib.hid (And.intro hrow HO.out.2)
      clear hro hrow HO
      go_wp2
      go_ret
      exact ⟨po, co, rfl, HF.out.1, HF.out.2⟩
end Go.Proofs.YtnkaegdnjfpliaaGreatDoor

/-! What the law of lists leans on. -/
namespace Go.Proofs.YtnkaegdnjfpliaaGreatDoor
set_option linter.unusedSimpArgs false
set_option linter.unusedVariables false
open Go.RowKit

theorem RowV.keep {w W W' : World} {n0 : Nat} {v : Value} {l : List V} (h : RowV w n0 W v l) (hk : ∀ b, n0 ≤ b → b < W.heap.size → W'.heap[b]? = W.heap[b]?) : RowV w n0 W' v l := by
  obtain ⟨xs, h1, h2⟩ := h
  exact ⟨xs, h1.keep hk, h2⟩
/-- An element of a row of one's own. -/
theorem OwnsP.at6 {W : World} {P : Nat → Prop} {v : Value} {n : Nat} {xs : List (Array Value)} (h : OwnsP W P 26 6 v n (xs.flatMap Array.toList)) (h6 : ∀ x ∈ xs, x.size = 6) {i : Nat} {x : Array Value} (hx : xs[i]? = some x) :
    ∃ g c, v = .slice (some ⟨g, 0, none⟩) n c ∧ Six W g (0 + i * 6) x := by
  have hfl := flatA_len h6
  have hi := (List.getElem?_eq_some_iff.1 hx).1
  have hl := h.1.1
  rcases h.1.2 with ⟨rfl, e⟩ | ⟨g, cap, cur, rfl, _, hg, _⟩
  · rw [hfl, e] at hl; omega
  · refine ⟨g, cap, rfl, ?_⟩
    have hc := h.1.cells (g := g) rfl
    have hs := h6 x (List.mem_of_getElem? hx)
    have cell : ∀ k u, k < 6 → x[k]? = some u → W.cell? ⟨g, 0 + i * 6 + k, none⟩ = some u := by
      intro k u hk hu
      have := hc (i * 6 + k) u (by rw [flat_six h6 i _ hx k hk]; exact hu)
      rw [addr_add, Nat.zero_add] at this
      rw [Nat.zero_add]; exact this
    match hx2 : x, hs with
    | ⟨[u0, u1, u2, u3, u4, u5]⟩, _ => exact ⟨_, _, _, _, _, _, rfl, cell 0 _ (by omega) rfl, cell 1 _ (by omega) rfl, cell 2 _ (by omega) rfl, cell 3 _ (by omega) rfl, cell 4 _ (by omega) rfl, cell 5 _ (by omega) rfl⟩
/-- The copies with one to spare. -/
structure LiA (w : World) (l : List V) (n1 g2 c2 : Nat) (W : World) : Prop where
  vals : LSp W (In w.heap.size n1) g2 c2 l
  below : Below w.heap.size w W
  size : n1 ≤ W.heap.size
theorem LiA.far {w W : World} {l : List V} {n1 g2 c2 : Nat} (h : LiA w l n1 g2 c2 W) : w.heap.size < n1 := by
  obtain ⟨xs, h1, _⟩ := h.vals
  have := h1.2 g2 rfl; have a := this.1; have b := this.2; omega
theorem LiA.keep {w W W' : World} {l : List V} {n1 g2 c2 : Nat} (h : LiA w l n1 g2 c2 W) (b : Below n1 W W') : LiA w l n1 g2 c2 W' := by
  have hf := h.far
  exact ⟨h.vals.keep fun k hk _ => b.block k hk.2, h.below.trans (b.mono (by omega)), Nat.le_trans h.size b.size⟩
theorem LiA.spare {w W : World} {l : List V} {n1 g2 c2 : Nat} (h : LiA w l n1 g2 c2 W) : W.cell? ⟨g2, l.length * 6, none⟩ = some (.int .i64 77) := h.vals.facts.1.2.2
/-- What is closed under writes into blocks of a range. -/
def RC (R : World → Prop) (lx ux : Nat) : Prop := ∀ W W', R W → Touch (In lx ux) W W' → R W'
/-- Rows that are written over, element by element: those from i on stand. -/
structure LiS (w : World) (l : List V) (n1 g2 c2 : Nat) (es : List El) (lx ux : Nat) (vx : Value) (na : Nat) (va : Value) (sa : List V) (R : World → Prop) (i : Nat) (W : World) : Prop where
  a : LiA w l n1 g2 c2 W
  row : OwnsP W (In lx ux) 26 6 vx sa.length ((es.map El.x).flatMap Array.toList)
  els : ∀ (j : Nat) (e : El), i ≤ j → es[j]? = some e → VOwn W e.Q e.v e.x
  vs : es.map El.v = sa
  x6 : ∀ e ∈ es, e.x.size = 6
  sub : ∀ e ∈ es, ∀ b, e.Q b → In lx ux b ∧ vx.ownBlock ≠ some b
  ap : es.Pairwise Apart
  doc : RowV w na W va sa
  rest : R W
  far : n1 ≤ lx ∧ ux ≤ na ∧ ux ≤ W.heap.size ∧ w.heap.size ≤ na
section
variable {w W W' : World} {l : List V} {n1 g2 c2 : Nat} {es : List El} {lx ux : Nat} {vx : Value} {na : Nat} {va : Value} {sa : List V} {R : World → Prop} {i : Nat}
theorem LiS.keep (h : LiS w l n1 g2 c2 es lx ux vx na va sa R i W) (hR : RC R lx ux) (b : Below W.heap.size W W') : LiS w l n1 g2 c2 es lx ux vx na va sa R i W' :=
  ⟨h.a.keep (b.mono h.a.size), h.row.keep fun k _ hk => b.block k hk, fun j e hj he => (h.els j e hj he).below b, h.vs, h.x6, h.sub, h.ap, h.doc.below b, hR _ _ h.rest (Touch.of_below b fun k hk hle => by omega), h.far.1, h.far.2.1, Nat.le_trans h.far.2.2.1 b.size, h.far.2.2.2⟩
theorem LiS.start (ha : LiA w l n1 g2 c2 W) (ho : LOwnD W (In lx ux) vx sa) (hd : RowV w na W va sa) (hr : R W) (hf : n1 ≤ lx ∧ ux ≤ na ∧ ux ≤ W.heap.size ∧ w.heap.size ≤ na) : ∃ es, LiS w l n1 g2 c2 es lx ux vx na va sa R 0 W := by
  obtain ⟨xs, h1, es, rfl, rfl, h3, h4⟩ := ho
  exact ⟨es, ha, h1, fun j e _ he => (h3 e (List.mem_of_getElem? he)).1, rfl, fun e he => (h3 e he).1.size6, fun e he b hb => (h3 e he).2 b hb, h4, hd, hr, hf⟩
theorem LiS.at {n : Nat} (h : LiS w l n1 g2 c2 es lx ux vx na va sa R i W) (hn : sa.length = n) (hi : i < n) (ht : totVs sa ≤ 900000) :
    ∃ e g c, es[i]? = some e ∧ vx = .slice (some ⟨g, 0, none⟩) n c ∧ Six W g (0 + i * 6) e.x ∧ VRd W e.v e.x ∧ totV e.v ≤ 1000000 ∧ ∃ b o c' xa, va = .slice (some ⟨b, o, none⟩) n c' ∧ Six W b (o + i * 6) xa ∧ VRd W e.v xa := by
  subst hn
  have hlen : es.length = sa.length := by rw [← h.vs]; simp
  have hi2 : i < es.length := by omega
  have he : es[i]? = some es[i] := List.getElem?_eq_getElem hi2
  have hv : es[i].v = sa[i] := by
    have : (es.map El.v)[i]? = sa[i]? := by rw [h.vs]
    rw [List.getElem?_map, he, List.getElem?_eq_getElem hi] at this
    simpa using this
  obtain ⟨g, c, e1, e2⟩ := h.row.at6 (fun x hx => by obtain ⟨e, he, rfl⟩ := List.mem_map.1 hx; exact h.x6 e he) (i := i) (x := es[i].x) (by rw [List.getElem?_map, he]; rfl)
  have htv : totV es[i].v ≤ 1000000 := by rw [hv]; have := totVs_mem (List.getElem_mem hi); omega
  have hll := totVs_length sa
  obtain ⟨p, c', rfl, hd⟩ := h.doc.rd h.far.2.2.2 h.a.below (by omega)
  obtain ⟨b, o, xa, rfl, h6, hva⟩ := hd.get hi
  exact ⟨es[i], g, c, he, e1, e2, (h.els i _ (Nat.le_refl _) he).rd htv, htv, b, o, c', xa, rfl, h6, by rw [hv]; exact hva⟩
theorem LiS.spoil (h : LiS w l n1 g2 c2 es lx ux vx na va sa R i W) (hR : RC R lx ux) {e : El} (he : es[i]? = some e) (ht : totV e.v ≤ 1000000) :
    Calls Tryz.prog 40 #[.agg e.x] W fun en w' => en = .returned (.tuple #[]) ∧ LiS w l n1 g2 c2 es lx ux vx na va sa R (i + 1) w' := by
  obtain ⟨f1, f2, f3, f4⟩ := h.far
  have hmem := List.mem_of_getElem? he
  have hsub := h.sub e hmem
  obtain ⟨k, b, n, s, vk, vl, ex, hsh⟩ := (h.els i e (Nat.le_refl _) he).shape
  rw [ex]
  refine (spoil_any e.v ht e.Q W k b n s vk vl hsh (fun q hq => by have := (hsub q hq).1.2; omega)).mono fun en w' ⟨he', hs⟩ => ⟨he', ?_⟩
  have hT : Touch (In lx ux) W w' := hs.touch.mono fun b _ hb => (hsub b hb).1
  refine ⟨h.a.keep (hT.toBelow h.a.size fun b hb e => by have := e.1; omega), ⟨ownsRow_heap h.row.1 fun g hg => hs.touch.block g (h.row.1.lt g hg).2 fun hq => (hsub g hq).2 hg, h.row.2⟩, fun j e' hj hj' => ?_, h.vs, h.x6, h.sub, h.ap,
    h.doc.keep fun b hb hlt => hT.block b hlt fun e => by have := e.2; omega, hR _ _ h.rest hT, f1, f2, Nat.le_trans f3 hT.size, f4⟩
  refine (h.els j e' (by omega) hj').keep fun b hb hlt => hs.touch.block b hlt fun hq => ?_
  obtain ⟨hi, ei⟩ := List.getElem?_eq_some_iff.1 he
  obtain ⟨hj2, ej⟩ := List.getElem?_eq_some_iff.1 hj'
  have := List.pairwise_iff_getElem.1 h.ap i j hi hj2 (by omega)
  rw [ei, ej] at this
  exact this b hq hb
end
/-- The second rows, while the first are written over. -/
def Rst (w : World) (ly uy : Nat) (vy : Value) (nb : Nat) (vb : Value) (sb : List V) (W : World) : Prop := LOwnD W (In ly uy) vy sb ∧ RowV w nb W vb sb ∧ uy ≤ W.heap.size
theorem Rst.rc {w : World} {lx ux ly uy : Nat} {vy : Value} {nb : Nat} {vb : Value} {sb : List V} (h1 : ux ≤ ly) (h2 : ux ≤ nb) : RC (Rst w ly uy vy nb vb sb) lx ux := fun W W' h t =>
  ⟨h.1.keep fun b hb hlt => t.block b hlt fun e => by have := hb.1; have := e.2; omega, h.2.1.keep fun b hb hlt => t.block b hlt fun e => by have := e.2; omega, Nat.le_trans h.2.2 t.size⟩
theorem rc_true (lx ux : Nat) : RC (fun _ => True) lx ux := fun _ _ _ _ => trivial
/-- What the loop of copies keeps. -/
structure LiL (w : World) (W : World) (o : Value) (m : List V) : Prop where
  row : CpI w.heap.size W o m
  below : Below w.heap.size w W
theorem LiL.last {w W : World} {o : Value} {m : List V} (h : LiL w W o m) (hm : m.length ≤ 1000000) (ty : TypeId) :
    ∃ g2 c2 W2, (Builtin.append_ #[24, 24] ty #[o, .slice (some ⟨W.heap.size, 0, none⟩) 1 1]).run Tryz.prog (W.alloc (.cells sentX 26)) = .ok (.slice (some ⟨g2, 0, none⟩) (m.length + 1) c2) W2 ∧ m.length + 1 ≤ c2 ∧ LiA w m W2.heap.size g2 c2 W2 := by
  have hbn := below_new (w := W) (.cells sentX 26)
  have hz := h.below.size
  obtain ⟨g2, c2, W2, a1, ⟨xs, a2, a3⟩, a4⟩ := (h.row.below hbn).last (Nat.le_trans hz hbn.size) (heap_alloc_new W _) hm ty
  have hL : LSp W2 (In w.heap.size W2.heap.size) g2 c2 m := ⟨xs, a2.imp fun b hb hp => ⟨hp, hb⟩, a3.imp fun b hb hp => ⟨hp, hb⟩⟩
  exact ⟨g2, c2, W2, a1, hL.facts.1.1, hL, (below_trans h.below hbn).trans a4, Nat.le_refl _⟩
theorem sortedP {w : World} {p : Option Addr} {c : Nat} {l : List V} (hE : Env w) (hl : LRd w p c l) (ht : totVs l ≤ 900000) (hf : fineL l = true) :
    Calls Tryz.prog 55 #[.slice p l.length c] w fun e w' => ∃ px cx sa, e = .returned (.slice px l.length cx) ∧ sa.length = l.length ∧ LOwnD w' (In w.heap.size w'.heap.size) (.slice px l.length cx) sa ∧ Below w.heap.size w w' ∧ sa.Perm l ∧ sa.Pairwise (fun a b => cmpV a b ≤ 0) := by
  refine (sorted_any hE hl ht).mono ?_
  rintro e w' ⟨hb, vl, l', rfl, ho, h⟩
  rcases h with ⟨_, hp, hs⟩ | ⟨h, _⟩
  · obtain ⟨px, cx, rfl⟩ : ∃ p c, vl = .slice p l'.length c := by obtain ⟨xs, h, _⟩ := ho; exact slices_of h
    have hle := hp.length_eq
    rw [hle] at ho
    exact ⟨px, cx, l', by rw [hle], hle, ho.imp fun b hb hp => ⟨hp, hb⟩, hb, hp, hs⟩
  · rw [h] at hf; cases hf
theorem sortedN {w : World} {p : Option Addr} {c : Nat} {l : List V} (hE : Env w) (hl : LRd w p c l) (ht : totVs l ≤ 900000) (hf : fineL l = false) :
    Calls Tryz.prog 55 #[.slice p l.length c] w fun e w' => ∃ px cx, e = .returned (.slice px 0 cx) ∧ LOwnD w' (In w.heap.size w'.heap.size) (.slice px 0 cx) [] ∧ Below w.heap.size w w' := by
  refine (sorted_any hE hl ht).mono ?_
  rintro e w' ⟨hb, vl, l', rfl, ho, h⟩
  rcases h with ⟨h, _⟩ | ⟨_, rfl⟩
  · rw [h] at hf; cases hf
  · obtain ⟨px, cx, rfl⟩ : ∃ p c, vl = .slice p ([] : List V).length c := by obtain ⟨xs, h, _⟩ := ho; exact slices_of h
    exact ⟨px, cx, rfl, ho.imp fun b hb hp => ⟨hp, hb⟩, hb⟩
theorem onceP {w : World} {p : Option Addr} {c : Nat} {l sb : List V} (hE : Env w) (hl : LRd w p c l) (hr : ∀ v ∈ l, rngV v) (ht : totVs l ≤ 900000) (hf : (if fineL l = true then onceL l else []) = sb) :
    Calls Tryz.prog 49 #[.slice p l.length c] w fun e w' => ∃ py cy, e = .returned (.slice py sb.length cy) ∧ LOwnD w' (In w.heap.size w'.heap.size) (.slice py sb.length cy) sb ∧ Below w.heap.size w w' := by
  refine (onceD_any hE hl hr (by omega)).mono ?_
  rintro e w' ⟨vl, rfl, ho, hb⟩
  rw [hf] at ho
  obtain ⟨py, cy, rfl⟩ : ∃ p c, vl = .slice p sb.length c := by obtain ⟨xs, h, _⟩ := ho; exact slices_of h
  exact ⟨py, cy, rfl, ho.imp fun b hb hp => ⟨hp, hb⟩, hb⟩
theorem once_tot (l : List V) : totVs (onceL l) ≤ totVs l := by
  have : ∀ (l out : List V), totVs (l.foldl stepO out) ≤ totVs out + totVs l := by
    intro l
    induction l with
    | nil => intro out; simp [totVs]
    | cons a r ih =>
      intro out
      rw [List.foldl_cons, totVs_cons]
      have h1 := ih (stepO out a)
      have h2 : totVs (stepO out a) ≤ totVs out + totV a := by
        unfold stepO
        split
        · omega
        · rw [totVs_append]; simp [totVs]
      omega
  have := this l []
  simpa [onceL, totVs] using this
end Go.Proofs.YtnkaegdnjfpliaaGreatDoor

/-! The law ValueLists. Printed by gen_lists.py. -/
namespace Go.Proofs.YtnkaegdnjfpliaaGreatDoor
set_option linter.unusedSimpArgs false
set_option linter.unusedVariables false
open Go.RowKit

set_option maxRecDepth 100000 in
set_option maxHeartbeats 16000000 in
theorem lists_law {w : World} {p : Option Addr} {c : Nat} {l : List V} (hE : Env w) (hl : LRd w p c l) (hr : rngVs l) :
    Calls Tryz.prog 12 #[.slice p l.length c] w fun e w' => e = .returned (.bool true) ∧ Below w.heap.size w w' := by
  have z1 : (l.length : Int) ≤ 140737488355328 := by have := hl.1.2.1; omega
  have HWK := Lib.hid (fun (W : World) (hb : Below w.heap.size w W) => (works_any (hE.b hb)).mono (R' := fun e w' => e = .returned (.bool true) ∧ Below w.heap.size w w') fun _ _ h => ⟨h.1, below_trans hb h.2⟩)
  by_cases g1 : 60 < l.length
  · have g1' : (60 : Int) < l.length := by omega
    clear hE hl hr
    go_enter Tryz.func12, Tryz.ntmps12
    go_wp2_with (go_at_call 16; refine (HWK.out _ (Below.refl _ _)).mono ?_; rintro e w9 ⟨rfl, hb⟩; have HB := Lib.hid hb; clear hb)
    go_ret
    exact ⟨rfl, HB.out⟩
  · have g1' : ¬ (60 : Int) < l.length := by omega
    have HSM := Lib.hid (small_any hl)
    by_cases hs : totVs l ≤ 2000
    · rw [decide_eq_true hs] at HSM
      have HE := Lib.hid hE
      have HL := Lib.hid hl
      have HR := Lib.hid (rngVs_iff.1 hr)
      have HN := Lib.hid (And.intro (show l.length ≤ 1000000 by omega) hs)
      clear hE hl hr hs
      go_enter Tryz.func12, Tryz.ntmps12
      go_wp2_with (go_at_call 15; refine HSM.out.mono ?_; rintro e w1 ⟨rfl, hb⟩; have HJ0 : Hid (LiL w w1 (.slice none 0 0) []) := Lib.hid ⟨CpI.start _ _, hb⟩; clear hb HSM)
      go_loopw [3, 4] (fun o i wr => ∃ (j : Nat) (ov : Value), j ≤ l.length ∧ i = .int .i64 (j : Int) ∧ ov = o ∧ Hid (LiL w wr ov (l.take j))) (fun _ i _ => l.length - (intOf i).toNat)
      case atStart => exact ⟨0, _, Nat.zero_le _, rfl, rfl, HJ0⟩
      case round =>
        clear HJ0
        obtain ⟨j, ov, hj, rfl, rfl, HJ⟩ := hrel
        by_cases hlt : j < l.length
        · have hlt1 : j + 1 ≤ l.length := hlt
          have htk : l.take (j + 1) = l.take j ++ [l[j]] := List.take_succ_eq_append_getElem hlt
          obtain ⟨g1, o1, pk1, ck1, pl1, cl1, rfl, ⟨a0, a1, a2, a3, a4, a5⟩, hv1⟩ := (HL.out.below HJ.out.below).at hlt
          have htv : totV l[j] ≤ 1000000 := by have := totVs_mem (List.getElem_mem hlt); have := HN.out.2; omega
          have hcall := copied_any l[j] htv
          generalize l[j] = s1 at *
          have HD := Lib.hid (And.intro htk (And.intro hcall (And.intro hv1 htv)))
          clear htk hcall hv1 htv
          go_wp2_with (first
            | (go_at_call 17
               (
                 refine (HD.out.2.1 _ _ HD.out.2.2.1).mono ?_
                 rintro e w5 ⟨x, rfl, hx, hb⟩
                 obtain ⟨v', W6, ha, hI, hlo⟩ := HJ.out.row.step HJ.out.below.size (Nat.le_refl _) hb hx (by rw [List.length_take]; have := HN.out.1; omega) 24
                 rw [← HD.out.1] at hI
                 have hN : LiL w W6 v' (l.take (j + 1)) := ⟨hI, HJ.out.below.trans hlo⟩
                 obtain ⟨_, _, _, _, rfl, _⟩ := (hx.open HD.out.2.2.2).open
                 have Ha := Lib.hid ha
                 have HN2 := Lib.hid hN
                 clear ha hI hx hb hlo hN))
            | (refine wpList_append rfl rfl rfl rfl Ha.out ?_))
          go_roundw
          case rel => exact ⟨j + 1, _, hlt1, by go_num, rfl, HN2⟩
          case measure => simp [intOf]; omega
        · obtain rfl : j = l.length := by omega
          have hJ := HJ.out
          rw [List.take_length] at hJ
          obtain ⟨g2, c2, W2, ha, hc2, hA⟩ := hJ.last HN.out.1 24
          have Ha := Lib.hid ha
          have HA := Lib.hid hA
          have hc2' : (l.length : Int) + 1 ≤ (c2 : Int) := by omega
          have hc3 : (c2 : Int) ≤ 9223372036854775807 := by have := hA.vals.facts.1.2.1; omega
          clear hJ HJ ha hA
          generalize hn1 : W2.heap.size = n1 at *
          have HN1 := Lib.hid hn1
          clear hn1
          have HFN := Lib.hid (fun (W : World) (h : Below w.heap.size w W) => finel_any (HL.out.below h) (by have := HN.out.2; omega))
          cases hf : fineL l with
          | true =>
            have HF := Lib.hid hf
            rw [hf] at HFN
            have hmay := fineL_may hf
            have HSO := Lib.hid (fun (W : World) (h : LiA w l n1 g2 c2 W) => sortedP (HE.out.b h.below) (h.vals.rd (by have := HN.out.2; omega)) (by have := HN.out.2; omega) hf)
            have HON := Lib.hid (fun (W : World) (h : LiA w l n1 g2 c2 W) => onceP (HE.out.b h.below) (h.vals.rd (by have := HN.out.2; omega)) HR.out (by have := HN.out.2; omega) (show (if fineL l = true then onceL l else []) = onceL l by rw [hf]; rfl))
            have HSR := Lib.hid (fun (W : World) (h : Below w.heap.size w W) => sortedR_any h HL.out hmay (by have := HN.out.1; omega))
            have HOR := Lib.hid (fun (W : World) (h : Below w.heap.size w W) => onceR_any h HL.out hmay (by have := HN.out.1; omega))
            have hot := once_tot l
            have hol := once_length l
            generalize onceL l = sb at *
            have HTB : Hid (totVs sb ≤ 900000) := Lib.hid (by have := HN.out.2; omega)
            have HM := Lib.hid hmay
            generalize hM : sb.length = M at *
            have zM : (M : Int) ≤ 60 := by omega
            have HSB := Lib.hid hM
            clear hf hmay hot hol hM
            go_wp2_with (first
              | (refine wpList_append rfl rfl rfl rfl Ha.out ?_; clear Ha)
              | (go_at_call 55
                 (
                   refine (HSO.out _ HA.out).mono ?_
                   rintro e V1 ⟨px, cx, sa, rfl, hsl, hox, hb1, hpa, hsa⟩
                   have HX := Lib.hid (And.intro hsl (And.intro hox (And.intro hb1 (And.intro hpa hsa))))
                   have HA1 := Lib.hid (HA.out.keep (hb1.mono HA.out.size))
                   clear HSO hsl hox hb1 hpa hsa))
              | (go_at_call 49
                 (
                   refine (HON.out _ HA1.out).mono ?_
                   rintro e V2 ⟨py, cy, rfl, hoy, hb2⟩
                   have HY := Lib.hid (And.intro hoy hb2)
                   have HA2 := Lib.hid (HA1.out.keep (hb2.mono HA1.out.size))
                   clear HON hoy hb2))
              | (go_at_call 18
                 (
                   refine (HFN.out _ HA2.out.below).mono ?_
                   rintro e V3 ⟨rfl, hb3⟩
                   have HB3 := Lib.hid hb3
                   have HA3 := Lib.hid (HA2.out.keep (hb3.mono HA2.out.size))
                   clear HFN hb3))
              | (go_at_call 56
                 (
                   refine (HSR.out _ HA3.out.below).mono ?_
                   rintro e V4 ⟨pa, ca, la, rfl, hra, hpl, hsl, hb4⟩
                   have HB4 := Lib.hid (And.intro hra (And.intro hpl (And.intro hsl hb4)))
                   have HA4 := Lib.hid (HA3.out.keep (hb4.mono HA3.out.size))
                   clear HSR hra hpl hsl hb4))
              | (go_at_call 57
                 (
                   refine (HOR.out _ HA4.out.below).mono ?_
                   rintro e V5 ⟨pb, cb, rfl, hrb, hb5⟩
                   have HB5 := Lib.hid (And.intro hrb hb5)
                   have hA5 := HA4.out.keep (hb5.mono HA4.out.size)
                   have HA5 := Lib.hid hA5
                   have sp := hA5.spare
                   clear HOR hrb hb5 hA5)))
            obtain ⟨hsl, hox, hb1, hpa, hsa⟩ := HX.out
            obtain ⟨hoy, hb2⟩ := HY.out
            obtain ⟨hra, hpl, hsl2, hb4⟩ := HB4.out
            obtain ⟨hrb, hb5⟩ := HB5.out
            have hee : la = sa := sorted_one (hpl.trans hpa.symm) hsl2 hsa (fun v hv => HM.out v (hpl.mem_iff.1 hv))
            subst hee
            have z12 := hb1.size
            have z23 := hb2.size
            have z34 := HB3.out.size
            have z45 := hb4.size
            have z56 := hb5.size
            have hn1 := HN1.out
            have hfar := HA.out.far
            have b25 : Below V2.heap.size V2 V5 := (HB3.out.trans (hb4.mono z34)).trans (hb5.mono (by omega))
            have b15 : Below V1.heap.size V1 V5 := hb2.trans (b25.mono z23)
            have hox5 := hox.below b15
            have hoy5 := hoy.below b25
            have hra5 := hra.below hb5
            rw [hn1] at hox5
            have HTA : Hid (totVs la ≤ 900000) := Lib.hid (by rw [totVs_perm hpa]; have := HN.out.2; omega)
            have hrst : Rst w V1.heap.size V2.heap.size (.slice py M cy) V4.heap.size (.slice pb M cb) sb V5 := ⟨hoy5, hrb, by omega⟩
            have HU := Lib.hid (And.intro (Nat.le_refl V1.heap.size) (show V1.heap.size ≤ V4.heap.size by omega))
            have hLS := LiS.start HA5.out hox5 hra5 hrst (by refine ⟨Nat.le_refl _, ?_, ?_, ?_⟩ <;> omega)
            obtain ⟨ex, hex⟩ := hLS
            have HS0 := Lib.hid hex
            have HLA := Lib.hid hpa.length_eq
            have HUF := Lib.hid (show n1 ≤ V1.heap.size ∧ V2.heap.size ≤ V4.heap.size ∧ w.heap.size ≤ V4.heap.size by omega)
            clear hsl hox hb1 hpa hsa hoy hb2 hra hpl hsl2 hb4 hrb hb5 z12 z23 z34 z45 z56 hn1 hfar b25 b15 hox5 hoy5 hra5 hrst hex HX HY HB3 HB4 HB5 HA1 HA2 HA3 HA4 HA5 HA
            generalize V1.heap.size = ly at *
            generalize V2.heap.size = uy at *
            generalize V3.heap.size = na at *
            generalize V4.heap.size = nb at *
            go_loopw [9] (fun i W => ∃ j : Nat, j ≤ l.length ∧ i = .int .i64 (j : Int) ∧ Hid (LiS w l n1 g2 c2 ex n1 ly (.slice px l.length cx) na (.slice pa l.length ca) la (Rst w ly uy (.slice py M cy) nb (.slice pb M cb) sb) j W)) (fun i _ => l.length - (intOf i).toNat)
            case atStart => exact ⟨0, Nat.zero_le _, rfl, HS0⟩
            case round =>
              clear HS0
              obtain ⟨j, hj, rfl, HS⟩ := hrel
              by_cases hlt : j < l.length
              · have hlt1 : j + 1 ≤ l.length := hlt
                obtain ⟨el, gx, cx', hel, evx, y1, v1, htv, ga, oa, ca', xa, eva, y2, v2⟩ := HS.out.at HLA.out hlt HTA.out
                cases evx
                cases eva
                have HKP := Lib.hid (fun (W : World) (h : Below wr.heap.size wr W) => alikeR_any el.v W el.x xa (v1.below h) (v2.below h))
                have hU := And.intro (HS.out.keep (Rst.rc HU.out.1 HU.out.2) (Below.refl _ wr).drew) (TwoE.start y1 y2)
                have HE2 := Lib.hid (And.intro hel htv)
                clear y1 y2 v1 v2 htv hel
                go_wp2
                refine plain_region_draws (fun W => LiS w l n1 g2 c2 ex n1 ly (.slice (some ⟨gx, 0, none⟩) l.length cx) na (.slice (some ⟨ga, oa, none⟩) l.length ca) la (Rst w ly uy (.slice py M cy) nb (.slice pb M cb) sb) j W ∧ TwoE wr gx (0 + j * 6) el.x ga (oa + j * 6) xa W) (by kernel_rfl) hU (fun hU => ?_)
                refine take 0 83 (v := .slice (some ⟨gx, 0, none⟩) l.length cx) rfl rfl (by kernel_rfl) (by kernel_rfl) (by kernel_rfl) rfl (fun W hW => exec_move rfl rfl) (by assumption) ?_
                simp only [Act.put, List.setIfInBounds_toArray, List.set_cons_zero, List.set_cons_succ]
                refine take 1 84 (v := .int .i64 (j : Int)) rfl rfl (by kernel_rfl) (by kernel_rfl) (by kernel_rfl) rfl (fun W hW => exec_move rfl rfl) (by assumption) ?_
                simp only [Act.put, List.setIfInBounds_toArray, List.set_cons_zero, List.set_cons_succ]
                refine take 2 85 (v := .pointer (some ⟨gx, 0 + j * 6, none⟩)) rfl rfl (by kernel_rfl) (by kernel_rfl) (by kernel_rfl) rfl (fun W hW => exec_indexAddr rfl rfl rfl (ia_vals _ _ _ _ _ hlt W)) (by assumption) ?_
                simp only [Act.put, List.setIfInBounds_toArray, List.set_cons_zero, List.set_cons_succ]
                refine take 3 86 (v := .agg el.x) rfl rfl (by kernel_rfl) (by kernel_rfl) (by kernel_rfl) rfl (fun W hW => exec_load rfl rfl (load_six hW.2.one)) (by assumption) ?_
                simp only [Act.put, List.setIfInBounds_toArray, List.set_cons_zero, List.set_cons_succ]
                refine take 4 87 (v := .slice (some ⟨ga, oa, none⟩) l.length ca) rfl rfl (by kernel_rfl) (by kernel_rfl) (by kernel_rfl) rfl (fun W hW => exec_move rfl rfl) (by assumption) ?_
                simp only [Act.put, List.setIfInBounds_toArray, List.set_cons_zero, List.set_cons_succ]
                refine take 5 88 (v := .int .i64 (j : Int)) rfl rfl (by kernel_rfl) (by kernel_rfl) (by kernel_rfl) rfl (fun W hW => exec_move rfl rfl) (by assumption) ?_
                simp only [Act.put, List.setIfInBounds_toArray, List.set_cons_zero, List.set_cons_succ]
                refine take 6 89 (v := .pointer (some ⟨ga, oa + j * 6, none⟩)) rfl rfl (by kernel_rfl) (by kernel_rfl) (by kernel_rfl) rfl (fun W hW => exec_indexAddr rfl rfl rfl (ia_vals _ _ _ _ _ hlt W)) (by assumption) ?_
                simp only [Act.put, List.setIfInBounds_toArray, List.set_cons_zero, List.set_cons_succ]
                refine take 7 90 (v := .agg xa) rfl rfl (by kernel_rfl) (by kernel_rfl) (by kernel_rfl) rfl (fun W hW => exec_load rfl rfl (load_six hW.2.two)) (by assumption) ?_
                simp only [Act.put, List.setIfInBounds_toArray, List.set_cons_zero, List.set_cons_succ]
                refine onlyCall 8 91 rfl rfl (by kernel_rfl) rfl (exec_call [.agg el.x, .agg xa] rfl rfl Tryz.func39 (by kernel_rfl) (by kernel_rfl)) ?_
                refine (HKP.out _ hU.2.b).mono ?_
                rintro e w5 ⟨rfl, hb5⟩
                replace hU := And.intro (hU.1.keep (Rst.rc HU.out.1 HU.out.2) hb5) (hU.2.keep hb5)
                refine ⟨_, rfl, .inr (by assumption), ?_⟩
                simp only [Act.put, List.setIfInBounds_toArray, List.set_cons_zero, List.set_cons_succ]
                refine take 9 92 (v := .bool false) rfl rfl (by kernel_rfl) (by kernel_rfl) (by kernel_rfl) rfl (fun W hW => exec_unot (b := true) rfl rfl) (by assumption) ?_
                simp only [Act.put, List.setIfInBounds_toArray, List.set_cons_zero, List.set_cons_succ]
                refine done (by kernel_rfl) ?_ _
                have HSP := Lib.hid (hU.1.spoil (Rst.rc HU.out.1 HU.out.2) HE2.out.1 HE2.out.2)
                have HLD := Lib.hid (load_six hU.2.one)
                have HLD2 := HLD
                rw [Nat.zero_add] at HLD2
                clear hU HKP HS hb5
                go_wp2_with (first
                  | (refine wpList_load rfl _ _ _ rfl rfl HLD.out ?_)
                  | (refine wpList_load rfl _ _ _ rfl rfl HLD2.out ?_)
                  | (go_at_call 40
                     (
                       refine HSP.out.mono ?_
                       rintro en w8 ⟨rfl, hS⟩
                       have HN := Lib.hid hS
                       clear hS HSP)))
                go_roundw
                case rel => exact ⟨j + 1, hlt1, by go_num, HN⟩
                case measure => simp [intOf]; omega
              · obtain rfl : j = l.length := by omega
                have hr := HS.out.rest
                have hLS := LiS.start (R := (fun _ => True)) HS.out.a hr.1 hr.2.1 trivial ⟨HUF.out.1, HUF.out.2.1, hr.2.2, HUF.out.2.2⟩
                obtain ⟨ey, hey⟩ := hLS
                have HS0 := Lib.hid hey
                clear hr hey HS
                go_wp2
                go_loopw [10] (fun i W => ∃ j : Nat, j ≤ M ∧ i = .int .i64 (j : Int) ∧ Hid (LiS w l n1 g2 c2 ey ly uy (.slice py M cy) nb (.slice pb M cb) sb (fun _ => True) j W)) (fun i _ => M - (intOf i).toNat)
                case atStart => exact ⟨0, Nat.zero_le _, rfl, HS0⟩
                case round =>
                  clear HS0
                  obtain ⟨j, hj, rfl, HS⟩ := hrel
                  by_cases hlt : j < M
                  · have hlt1 : j + 1 ≤ M := hlt
                    obtain ⟨el, gx, cx', hel, evx, y1, v1, htv, ga, oa, ca', xa, eva, y2, v2⟩ := HS.out.at HSB.out hlt HTB.out
                    cases evx
                    cases eva
                    have HKP := Lib.hid (fun (W : World) (h : Below wr.heap.size wr W) => alikeR_any el.v W el.x xa (v1.below h) (v2.below h))
                    have hU := And.intro (HS.out.keep (rc_true _ _) (Below.refl _ wr).drew) (TwoE.start y1 y2)
                    have HE2 := Lib.hid (And.intro hel htv)
                    clear y1 y2 v1 v2 htv hel
                    go_wp2
                    refine plain_region_draws (fun W => LiS w l n1 g2 c2 ey ly uy (.slice (some ⟨gx, 0, none⟩) M cy) nb (.slice (some ⟨ga, oa, none⟩) M cb) sb (fun _ => True) j W ∧ TwoE wr gx (0 + j * 6) el.x ga (oa + j * 6) xa W) (by kernel_rfl) hU (fun hU => ?_)
                    refine take 0 104 (v := .slice (some ⟨gx, 0, none⟩) M cy) rfl rfl (by kernel_rfl) (by kernel_rfl) (by kernel_rfl) rfl (fun W hW => exec_move rfl rfl) (by assumption) ?_
                    simp only [Act.put, List.setIfInBounds_toArray, List.set_cons_zero, List.set_cons_succ]
                    refine take 1 105 (v := .int .i64 (j : Int)) rfl rfl (by kernel_rfl) (by kernel_rfl) (by kernel_rfl) rfl (fun W hW => exec_move rfl rfl) (by assumption) ?_
                    simp only [Act.put, List.setIfInBounds_toArray, List.set_cons_zero, List.set_cons_succ]
                    refine take 2 106 (v := .pointer (some ⟨gx, 0 + j * 6, none⟩)) rfl rfl (by kernel_rfl) (by kernel_rfl) (by kernel_rfl) rfl (fun W hW => exec_indexAddr rfl rfl rfl (ia_vals _ _ _ _ _ hlt W)) (by assumption) ?_
                    simp only [Act.put, List.setIfInBounds_toArray, List.set_cons_zero, List.set_cons_succ]
                    refine take 3 107 (v := .agg el.x) rfl rfl (by kernel_rfl) (by kernel_rfl) (by kernel_rfl) rfl (fun W hW => exec_load rfl rfl (load_six hW.2.one)) (by assumption) ?_
                    simp only [Act.put, List.setIfInBounds_toArray, List.set_cons_zero, List.set_cons_succ]
                    refine take 4 108 (v := .slice (some ⟨ga, oa, none⟩) M cb) rfl rfl (by kernel_rfl) (by kernel_rfl) (by kernel_rfl) rfl (fun W hW => exec_move rfl rfl) (by assumption) ?_
                    simp only [Act.put, List.setIfInBounds_toArray, List.set_cons_zero, List.set_cons_succ]
                    refine take 5 109 (v := .int .i64 (j : Int)) rfl rfl (by kernel_rfl) (by kernel_rfl) (by kernel_rfl) rfl (fun W hW => exec_move rfl rfl) (by assumption) ?_
                    simp only [Act.put, List.setIfInBounds_toArray, List.set_cons_zero, List.set_cons_succ]
                    refine take 6 110 (v := .pointer (some ⟨ga, oa + j * 6, none⟩)) rfl rfl (by kernel_rfl) (by kernel_rfl) (by kernel_rfl) rfl (fun W hW => exec_indexAddr rfl rfl rfl (ia_vals _ _ _ _ _ hlt W)) (by assumption) ?_
                    simp only [Act.put, List.setIfInBounds_toArray, List.set_cons_zero, List.set_cons_succ]
                    refine take 7 111 (v := .agg xa) rfl rfl (by kernel_rfl) (by kernel_rfl) (by kernel_rfl) rfl (fun W hW => exec_load rfl rfl (load_six hW.2.two)) (by assumption) ?_
                    simp only [Act.put, List.setIfInBounds_toArray, List.set_cons_zero, List.set_cons_succ]
                    refine onlyCall 8 112 rfl rfl (by kernel_rfl) rfl (exec_call [.agg el.x, .agg xa] rfl rfl Tryz.func39 (by kernel_rfl) (by kernel_rfl)) ?_
                    refine (HKP.out _ hU.2.b).mono ?_
                    rintro e w5 ⟨rfl, hb5⟩
                    replace hU := And.intro (hU.1.keep (rc_true _ _) hb5) (hU.2.keep hb5)
                    refine ⟨_, rfl, .inr (by assumption), ?_⟩
                    simp only [Act.put, List.setIfInBounds_toArray, List.set_cons_zero, List.set_cons_succ]
                    refine take 9 113 (v := .bool false) rfl rfl (by kernel_rfl) (by kernel_rfl) (by kernel_rfl) rfl (fun W hW => exec_unot (b := true) rfl rfl) (by assumption) ?_
                    simp only [Act.put, List.setIfInBounds_toArray, List.set_cons_zero, List.set_cons_succ]
                    refine done (by kernel_rfl) ?_ _
                    have HSP := Lib.hid (hU.1.spoil (rc_true _ _) HE2.out.1 HE2.out.2)
                    have HLD := Lib.hid (load_six hU.2.one)
                    have HLD2 := HLD
                    rw [Nat.zero_add] at HLD2
                    clear hU HKP HS hb5
                    go_wp2_with (first
                      | (refine wpList_load rfl _ _ _ rfl rfl HLD.out ?_)
                      | (refine wpList_load rfl _ _ _ rfl rfl HLD2.out ?_)
                      | (go_at_call 40
                         (
                           refine HSP.out.mono ?_
                           rintro en w8 ⟨rfl, hS⟩
                           have HN := Lib.hid hS
                           clear hS HSP)))
                    go_roundw
                    case rel => exact ⟨j + 1, hlt1, by go_num, HN⟩
                    case measure => simp [intOf]; omega
                  · obtain rfl : j = M := by omega
                    have HA := Lib.hid HS.out.a
                    clear HS
                    have HA0 := HA
                    go_wp2
                    go_loopw [11] (fun i W => ∃ j : Nat, j ≤ l.length ∧ i = .int .i64 (j : Int) ∧ Hid (LiA w l n1 g2 c2 W)) (fun i _ => l.length - (intOf i).toNat)
                    case atStart => exact ⟨0, Nat.zero_le _, rfl, HA0⟩
                    case round =>
                      clear HA HA0
                      obtain ⟨j, hj, rfl, HA⟩ := hrel
                      by_cases hlt : j < l.length
                      · have hlt1 : j + 1 ≤ l.length := hlt
                        obtain ⟨b0, o0, x2, e0, y0, v2⟩ := (HL.out.below HA.out.below).get hlt
                        subst e0
                        obtain ⟨x1, y1, v1⟩ := HA.out.vals.facts.2 j l[j] (List.getElem?_eq_getElem hlt)
                        have y1' : Six wr g2 (0 + j * 6) x1 := by rw [Nat.zero_add]; exact y1
                        have htv : totV l[j] ≤ 1000000 := by have := totVs_mem (List.getElem_mem hlt); have := HN.out.2; omega
                        have HKP := Lib.hid (fun (W : World) (h : Below wr.heap.size wr W) => kept_any l[j] _ W x1 x2 htv (v1.below h) (v2.below h))
                        have hU := And.intro (HA.out.keep ((Below.refl _ wr).drew.mono HA.out.size)) (TwoE.start y1' y0)
                        clear y0 y1 y1' v1 v2 htv
                        go_wp2
                        clear HA
                        refine plain_region_draws (fun W => LiA w l n1 g2 c2 W ∧ TwoE wr g2 (0 + j * 6) x1 b0 (o0 + j * 6) x2 W) (by kernel_rfl) hU (fun hU => ?_)
                        refine take 0 125 (v := .slice (some ⟨g2, 0, none⟩) l.length c2) rfl rfl (by kernel_rfl) (by kernel_rfl) (by kernel_rfl) rfl (fun W hW => exec_move rfl rfl) (by assumption) ?_
                        simp only [Act.put, List.setIfInBounds_toArray, List.set_cons_zero, List.set_cons_succ]
                        refine take 1 126 (v := .int .i64 (j : Int)) rfl rfl (by kernel_rfl) (by kernel_rfl) (by kernel_rfl) rfl (fun W hW => exec_move rfl rfl) (by assumption) ?_
                        simp only [Act.put, List.setIfInBounds_toArray, List.set_cons_zero, List.set_cons_succ]
                        refine take 2 127 (v := .pointer (some ⟨g2, 0 + j * 6, none⟩)) rfl rfl (by kernel_rfl) (by kernel_rfl) (by kernel_rfl) rfl (fun W hW => exec_indexAddr rfl rfl rfl (ia_vals _ _ _ _ _ hlt W)) (by assumption) ?_
                        simp only [Act.put, List.setIfInBounds_toArray, List.set_cons_zero, List.set_cons_succ]
                        refine take 3 128 (v := .agg x1) rfl rfl (by kernel_rfl) (by kernel_rfl) (by kernel_rfl) rfl (fun W hW => exec_load rfl rfl (load_six hW.2.one)) (by assumption) ?_
                        simp only [Act.put, List.setIfInBounds_toArray, List.set_cons_zero, List.set_cons_succ]
                        refine take 4 129 (v := .slice (some ⟨b0, o0, none⟩) l.length c) rfl rfl (by kernel_rfl) (by kernel_rfl) (by kernel_rfl) rfl (fun W hW => exec_move rfl rfl) (by assumption) ?_
                        simp only [Act.put, List.setIfInBounds_toArray, List.set_cons_zero, List.set_cons_succ]
                        refine take 5 130 (v := .int .i64 (j : Int)) rfl rfl (by kernel_rfl) (by kernel_rfl) (by kernel_rfl) rfl (fun W hW => exec_move rfl rfl) (by assumption) ?_
                        simp only [Act.put, List.setIfInBounds_toArray, List.set_cons_zero, List.set_cons_succ]
                        refine take 6 131 (v := .pointer (some ⟨b0, o0 + j * 6, none⟩)) rfl rfl (by kernel_rfl) (by kernel_rfl) (by kernel_rfl) rfl (fun W hW => exec_indexAddr rfl rfl rfl (ia_vals _ _ _ _ _ hlt W)) (by assumption) ?_
                        simp only [Act.put, List.setIfInBounds_toArray, List.set_cons_zero, List.set_cons_succ]
                        refine take 7 132 (v := .agg x2) rfl rfl (by kernel_rfl) (by kernel_rfl) (by kernel_rfl) rfl (fun W hW => exec_load rfl rfl (load_six hW.2.two)) (by assumption) ?_
                        simp only [Act.put, List.setIfInBounds_toArray, List.set_cons_zero, List.set_cons_succ]
                        refine onlyCall 8 133 rfl rfl (by kernel_rfl) rfl (exec_call [.agg x1, .agg x2] rfl rfl Tryz.func22 (by kernel_rfl) (by kernel_rfl)) ?_
                        refine (HKP.out _ hU.2.b).mono ?_
                        rintro e w5 ⟨rfl, hb5⟩
                        replace hU := And.intro (hU.1.keep (hb5.mono hU.1.size)) (hU.2.keep hb5)
                        refine ⟨_, rfl, .inr (by assumption), ?_⟩
                        simp only [Act.put, List.setIfInBounds_toArray, List.set_cons_zero, List.set_cons_succ]
                        refine take 9 134 (v := .bool false) rfl rfl (by kernel_rfl) (by kernel_rfl) (by kernel_rfl) rfl (fun W hW => exec_unot (b := true) rfl rfl) (by assumption) ?_
                        simp only [Act.put, List.setIfInBounds_toArray, List.set_cons_zero, List.set_cons_succ]
                        refine done (by kernel_rfl) ?_ _
                        have HA := Lib.hid hU.1
                        clear hU HKP hb5
                        go_wp2
                        go_roundw
                        case rel => exact ⟨j + 1, hlt1, by go_num, HA⟩
                        case measure => simp [intOf]; omega
                      · obtain rfl : j = l.length := by omega
                        go_wp2_with (go_at_call 16; refine (HWK.out _ HA.out.below).mono ?_; rintro e w9 ⟨rfl, hb⟩; have HB := Lib.hid hb; clear hb)
                        go_ret
                        exact ⟨rfl, HB.out⟩
          | false =>
            rw [hf] at HFN
            have HSO := Lib.hid (fun (W : World) (h : LiA w l n1 g2 c2 W) => sortedN (HE.out.b h.below) (h.vals.rd (by have := HN.out.2; omega)) (by have := HN.out.2; omega) hf)
            have HON := Lib.hid (fun (W : World) (h : LiA w l n1 g2 c2 W) => onceP (HE.out.b h.below) (h.vals.rd (by have := HN.out.2; omega)) HR.out (by have := HN.out.2; omega) (show (if fineL l = true then onceL l else []) = [] by rw [hf]; rfl))
            clear hf
            go_wp2_with (first
              | (refine wpList_append rfl rfl rfl rfl Ha.out ?_; clear Ha)
              | (go_at_call 55
                 (
                   refine (HSO.out _ HA.out).mono ?_
                   rintro e V1 ⟨px, cx, rfl, hox, hb1⟩
                   have HA1 := Lib.hid (HA.out.keep (hb1.mono HA.out.size))
                   clear HSO hox hb1))
              | (go_at_call 49
                 (
                   refine (HON.out _ HA1.out).mono ?_
                   rintro e V2 ⟨py, cy, rfl, hoy, hb2⟩
                   have HA2 := Lib.hid (HA1.out.keep (hb2.mono HA1.out.size))
                   clear HON hoy hb2))
              | (go_at_call 18
                 (
                   refine (HFN.out _ HA2.out.below).mono ?_
                   rintro e V3 ⟨rfl, hb3⟩
                   have hA3 := HA2.out.keep (hb3.mono HA2.out.size)
                   have HA3 := Lib.hid hA3
                   have sp := hA3.spare
                   clear HFN hb3 hA3)))
            have HA0 := HA3
            clear HA HA1 HA2 HA3
            have HA := HA0
            go_loopw [9] (fun i W => ∃ j : Nat, j ≤ 0 ∧ i = .int .i64 (j : Int) ∧ Hid (LiA w l n1 g2 c2 W)) (fun i _ => 0 - (intOf i).toNat)
            case atStart => exact ⟨0, Nat.zero_le _, rfl, HA0⟩
            case round =>
              clear HA HA0
              obtain ⟨j, hj, rfl, HA⟩ := hrel
              obtain rfl : j = 0 := by omega
              have HA0 := HA
              go_wp2
              go_loopw [10] (fun i W => ∃ j : Nat, j ≤ 0 ∧ i = .int .i64 (j : Int) ∧ Hid (LiA w l n1 g2 c2 W)) (fun i _ => 0 - (intOf i).toNat)
              case atStart => exact ⟨0, Nat.zero_le _, rfl, HA0⟩
              case round =>
                clear HA HA0
                obtain ⟨j, hj, rfl, HA⟩ := hrel
                obtain rfl : j = 0 := by omega
                have HA0 := HA
                go_wp2
                go_loopw [11] (fun i W => ∃ j : Nat, j ≤ l.length ∧ i = .int .i64 (j : Int) ∧ Hid (LiA w l n1 g2 c2 W)) (fun i _ => l.length - (intOf i).toNat)
                case atStart => exact ⟨0, Nat.zero_le _, rfl, HA0⟩
                case round =>
                  clear HA HA0
                  obtain ⟨j, hj, rfl, HA⟩ := hrel
                  by_cases hlt : j < l.length
                  · have hlt1 : j + 1 ≤ l.length := hlt
                    obtain ⟨b0, o0, x2, e0, y0, v2⟩ := (HL.out.below HA.out.below).get hlt
                    subst e0
                    obtain ⟨x1, y1, v1⟩ := HA.out.vals.facts.2 j l[j] (List.getElem?_eq_getElem hlt)
                    have y1' : Six wr g2 (0 + j * 6) x1 := by rw [Nat.zero_add]; exact y1
                    have htv : totV l[j] ≤ 1000000 := by have := totVs_mem (List.getElem_mem hlt); have := HN.out.2; omega
                    have HKP := Lib.hid (fun (W : World) (h : Below wr.heap.size wr W) => kept_any l[j] _ W x1 x2 htv (v1.below h) (v2.below h))
                    have hU := And.intro (HA.out.keep ((Below.refl _ wr).drew.mono HA.out.size)) (TwoE.start y1' y0)
                    clear y0 y1 y1' v1 v2 htv
                    go_wp2
                    clear HA
                    refine plain_region_draws (fun W => LiA w l n1 g2 c2 W ∧ TwoE wr g2 (0 + j * 6) x1 b0 (o0 + j * 6) x2 W) (by kernel_rfl) hU (fun hU => ?_)
                    refine take 0 125 (v := .slice (some ⟨g2, 0, none⟩) l.length c2) rfl rfl (by kernel_rfl) (by kernel_rfl) (by kernel_rfl) rfl (fun W hW => exec_move rfl rfl) (by assumption) ?_
                    simp only [Act.put, List.setIfInBounds_toArray, List.set_cons_zero, List.set_cons_succ]
                    refine take 1 126 (v := .int .i64 (j : Int)) rfl rfl (by kernel_rfl) (by kernel_rfl) (by kernel_rfl) rfl (fun W hW => exec_move rfl rfl) (by assumption) ?_
                    simp only [Act.put, List.setIfInBounds_toArray, List.set_cons_zero, List.set_cons_succ]
                    refine take 2 127 (v := .pointer (some ⟨g2, 0 + j * 6, none⟩)) rfl rfl (by kernel_rfl) (by kernel_rfl) (by kernel_rfl) rfl (fun W hW => exec_indexAddr rfl rfl rfl (ia_vals _ _ _ _ _ hlt W)) (by assumption) ?_
                    simp only [Act.put, List.setIfInBounds_toArray, List.set_cons_zero, List.set_cons_succ]
                    refine take 3 128 (v := .agg x1) rfl rfl (by kernel_rfl) (by kernel_rfl) (by kernel_rfl) rfl (fun W hW => exec_load rfl rfl (load_six hW.2.one)) (by assumption) ?_
                    simp only [Act.put, List.setIfInBounds_toArray, List.set_cons_zero, List.set_cons_succ]
                    refine take 4 129 (v := .slice (some ⟨b0, o0, none⟩) l.length c) rfl rfl (by kernel_rfl) (by kernel_rfl) (by kernel_rfl) rfl (fun W hW => exec_move rfl rfl) (by assumption) ?_
                    simp only [Act.put, List.setIfInBounds_toArray, List.set_cons_zero, List.set_cons_succ]
                    refine take 5 130 (v := .int .i64 (j : Int)) rfl rfl (by kernel_rfl) (by kernel_rfl) (by kernel_rfl) rfl (fun W hW => exec_move rfl rfl) (by assumption) ?_
                    simp only [Act.put, List.setIfInBounds_toArray, List.set_cons_zero, List.set_cons_succ]
                    refine take 6 131 (v := .pointer (some ⟨b0, o0 + j * 6, none⟩)) rfl rfl (by kernel_rfl) (by kernel_rfl) (by kernel_rfl) rfl (fun W hW => exec_indexAddr rfl rfl rfl (ia_vals _ _ _ _ _ hlt W)) (by assumption) ?_
                    simp only [Act.put, List.setIfInBounds_toArray, List.set_cons_zero, List.set_cons_succ]
                    refine take 7 132 (v := .agg x2) rfl rfl (by kernel_rfl) (by kernel_rfl) (by kernel_rfl) rfl (fun W hW => exec_load rfl rfl (load_six hW.2.two)) (by assumption) ?_
                    simp only [Act.put, List.setIfInBounds_toArray, List.set_cons_zero, List.set_cons_succ]
                    refine onlyCall 8 133 rfl rfl (by kernel_rfl) rfl (exec_call [.agg x1, .agg x2] rfl rfl Tryz.func22 (by kernel_rfl) (by kernel_rfl)) ?_
                    refine (HKP.out _ hU.2.b).mono ?_
                    rintro e w5 ⟨rfl, hb5⟩
                    replace hU := And.intro (hU.1.keep (hb5.mono hU.1.size)) (hU.2.keep hb5)
                    refine ⟨_, rfl, .inr (by assumption), ?_⟩
                    simp only [Act.put, List.setIfInBounds_toArray, List.set_cons_zero, List.set_cons_succ]
                    refine take 9 134 (v := .bool false) rfl rfl (by kernel_rfl) (by kernel_rfl) (by kernel_rfl) rfl (fun W hW => exec_unot (b := true) rfl rfl) (by assumption) ?_
                    simp only [Act.put, List.setIfInBounds_toArray, List.set_cons_zero, List.set_cons_succ]
                    refine done (by kernel_rfl) ?_ _
                    have HA := Lib.hid hU.1
                    clear hU HKP hb5
                    go_wp2
                    go_roundw
                    case rel => exact ⟨j + 1, hlt1, by go_num, HA⟩
                    case measure => simp [intOf]; omega
                  · obtain rfl : j = l.length := by omega
                    go_wp2_with (go_at_call 16; refine (HWK.out _ HA.out.below).mono ?_; rintro e w9 ⟨rfl, hb⟩; have HB := Lib.hid hb; clear hb)
                    go_ret
                    exact ⟨rfl, HB.out⟩
    · rw [decide_eq_false hs] at HSM
      clear hE hl hr hs
      go_enter Tryz.func12, Tryz.ntmps12
      go_wp2_with (first
        | (go_at_call 15; refine HSM.out.mono ?_; rintro e w1 ⟨rfl, hb⟩; have HB0 := Lib.hid hb; clear hb HSM)
        | (go_at_call 16; refine (HWK.out _ HB0.out).mono ?_; rintro e w9 ⟨rfl, hb⟩; have HB := Lib.hid hb; clear hb))
      go_ret
      exact ⟨rfl, HB.out⟩
end Go.Proofs.YtnkaegdnjfpliaaGreatDoor
