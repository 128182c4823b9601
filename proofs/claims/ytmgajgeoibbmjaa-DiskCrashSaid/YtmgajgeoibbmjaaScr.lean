/- Scripts of steps that came in. -/
import Derived.Test.YtmgajgeoibbmjaaDnp
import Derived.Test.YtmgajgeoibbmjaaDsame
import Derived.ChangeSlices
import Derived.Deep.Slices
namespace Go.Proofs.Ytmgajgeoibbmjaa
open Go.ChangeShapes Go.WideShapes Go.ChangeAt Go.RowKit Go.Joins Go.Deep

/-- Bytes that came in. -/
theorem open_bytesD {H : Type} {enc : TypeId × Value → H} {w : World} {base : Nat} {held : Bool} {fuel : Nat} {v : Value} {y : DataW H × List MemPlace} (h : DataW.trod enc Try.prog w base (fun _ => true) held fuel 35 [v] = some y) :
    ∃ q m c bs, v = .slice q m c ∧ m = List.length bs ∧ RdB w (.slice q m c) bs := by
  rcases open_ints Try.underlying35 Try.underlying5 (by kernel_rfl) h with ⟨h, _⟩ | ⟨a, len, cap, zs, h, _, hl, hm, hzl, _, hcell, hwz⟩
  · cases h
    exact ⟨none, 0, 0, [], rfl, rfl, none, 0, rfl, ⟨Nat.le_refl _, by simp [maxLen], fun _ => rfl⟩, fun ad h => by cases h⟩
  · cases h
    simp only [if_true] at hzl
    have hlen : ((zs.take len).map fun n => UInt8.ofNat n.toNat).length = len := by simp; omega
    refine ⟨some a, len, cap, (zs.take len).map fun n => UInt8.ofNat n.toNat, rfl, hlen.symm, some a, cap, by rw [hlen], ⟨by rw [hlen]; exact hl, hm, fun h => by cases h⟩, fun ad had => ?_⟩
    cases had
    have hspot : ∀ i, i < len → a.spot = none ∧ w.cell? ⟨a.block, a.off + i, none⟩ = some (.int .u8 (zs.getD i 0)) := fun i hi => by
      have h0 := hcell 0 (by omega)
      have hs : a.spot = none := by
        have := World.cell?_spot h0
        simpa [Addr.add] using this
      have hi' := hcell i (by omega)
      obtain ⟨ab, ao, asp⟩ := a
      simp only at hs
      subst hs
      rw [addr_add] at hi'
      exact ⟨rfl, hi'⟩
    refine ⟨fun hne => (hspot 0 (by
      rcases Nat.eq_zero_or_pos len with e | e
      · subst e; simp at hne
      · exact e)).1, fun i b hi => ?_⟩
    rw [List.getElem?_map, List.getElem?_take] at hi
    split at hi
    · rename_i hlt
      have hc := (hspot i hlt).2
      have hb := range_u8 hwz i
      rw [List.getD_eq_getElem?_getD] at hc
      cases hz : zs[i]? with
      | none => rw [hz] at hi; cases hi
      | some z =>
        rw [hz] at hi hc hb
        simp only [Option.map_some, Option.some.injEq, Option.getD_some] at hi hc hb
        rw [hc, ← hi]
        simp only [UInt8.toNat_ofNat']
        congr 2
        omega
    · cases hi
/-- Numbers that came in. -/
theorem open_intsD {H : Type} {enc : TypeId × Value → H} {w : World} {base : Nat} {held : Bool} {fuel : Nat} {v : Value} {y : DataW H × List MemPlace} (h : DataW.trod enc Try.prog w base (fun _ => true) held fuel 31 [v] = some y) :
    ∃ q m c picks, v = .slice q m c ∧ m = List.length picks ∧ RdI w (.slice q m c) picks ∧ (q = none → c = 0) := by
  rcases open_ints Try.underlying31 Try.underlying3 (by kernel_rfl) h with ⟨h, _⟩ | ⟨a, len, cap, zs, h, _, hl, _, hzl, _, hcell, _⟩
  · cases h
    exact ⟨none, 0, 0, [], rfl, rfl, ⟨none, 0, rfl, fun _ => rfl, fun ad h => by cases h⟩, fun _ => rfl⟩
  · cases h
    have hlen : len = (zs.take len).length := by rw [List.length_take, hzl]; simp; omega
    have hz : len ≤ zs.length := by rw [hzl]; simpa using hl
    have hspot : ∀ i, i < len → a.spot = none ∧ w.cell? ⟨a.block, a.off + i, none⟩ = some (.int .i64 (zs.getD i 0)) := fun i hi => by
      have h0 := hcell 0 (by omega)
      have hs : a.spot = none := by
        have := World.cell?_spot h0
        simpa [Addr.add] using this
      have hi' := hcell i (by omega)
      obtain ⟨ab, ao, asp⟩ := a
      simp only at hs
      subst hs
      rw [addr_add] at hi'
      exact ⟨rfl, hi'⟩
    refine ⟨some a, len, cap, zs.take len, rfl, hlen, ⟨some a, cap, by rw [← hlen], fun h => (by cases h), fun ad had => ?_⟩, fun h => by cases h⟩
    cases had
    refine ⟨fun hne => (hspot 0 (by
      rcases Nat.eq_zero_or_pos len with e | e
      · subst e; simp at hne
      · exact e)).1, fun i k hi => ?_⟩
    rw [List.getElem?_take] at hi
    split at hi
    · rename_i hlt
      have := (hspot i hlt).2
      rw [List.getD, hi] at this
      exact this
    · cases hi
theorem okWide_sl {P : Program} {w : World} {r : Reach} {b : Nat} {t e : TypeId} {v : Value} (ht : P.underlying t = some (.slice e)) (h : Value.okWide P w r b t v) : ∃ a n c, v = .slice a n c ∧ ∀ ad, a = some ad → ad.spot = none := by
  simp only [Value.okWide, ht, Cell.okWide, Cell.ok] at h
  cases v with
  | slice a n c =>
    refine ⟨a, n, c, rfl, ?_⟩
    rintro ad rfl
    simp only [World.has] at h
    exact h.2.2.2.1
  | _ => simp at h
instance : Inhabited StpM := ⟨⟨0, 0, 0, none, 0, 0, none, 0, 0, [], []⟩⟩
/-- A script that came in. -/
theorem open_scr {H : Type} {enc : TypeId × Value → H} {w : World} {base : Nat} {held : Bool} {fuel : Nat} {v : Value} {y : DataW H × List MemPlace} (hs : ∀ a n c, v = .slice (some a) n c → a.spot = none) (h : DataW.trod enc Try.prog w base (fun _ => true) held fuel 22 [v] = some y) :
    ∃ ss, ScrAt w v ss ∧ ∀ s ∈ ss, s.m = s.ks.length ∧ s.m2 = s.bs.length := by
  rcases Go.Deep.open_slice Try.underlying22 h with ⟨h, _⟩ | ⟨a, len, cap, m, n, D, Pl, h, _, hl, _, hm, _, hel⟩
  · cases h
    exact ⟨[], ⟨none, 0, rfl, fun _ => rfl, fun ad h => by cases h⟩, by simp⟩
  · cases h
    have hsp := hs a len cap rfl
    have hlm : len ≤ m := by rw [hm]; simpa using hl
    have hc : Try.prog.cellsOf 37 = 5 := by kernel_rfl
    rw [hc] at hel
    obtain ⟨f, hf⟩ := Go.Deep.choose_lt (n := len) (α := StpM) (p := fun i s => w.cells? base (a.add (i * 5)) 5 = some [.int .i64 s.kd, .int .i64 s.at_, .int .i64 s.num, .slice s.q2 s.m2 s.c2, .slice s.q s.m s.c] ∧ s.m = s.ks.length ∧ s.m2 = s.bs.length ∧ RdB w (.slice s.q2 s.m2 s.c2) s.bs ∧ RdI w (.slice s.q s.m s.c) s.ks ∧ (s.q = none → s.c = 0)) (fun i hi => by
      obtain ⟨cs', h1, h2⟩ := hel i (by omega)
      obtain ⟨kd, at_, num, c3, c4, rfl, ⟨_, _, k3⟩, ⟨_, _, k4⟩⟩ := open_stepD h2
      obtain ⟨q2, m2, d2, bs, rfl, e1, r1⟩ := open_bytesD k3
      obtain ⟨q, m', d1, ks, rfl, e2, r2, r3⟩ := open_intsD k4
      exact ⟨⟨kd, at_, num, q2, m2, d2, q, m', d1, bs, ks⟩, h1, e2, e1, r1, r2, r3⟩)
    obtain ⟨ab, ao, asp⟩ := a
    simp only at hsp
    subst hsp
    refine ⟨(List.range len).map f, ⟨some ⟨ab, ao, none⟩, cap, by simp, fun h => (by cases h), fun ad had => ?_⟩, fun s hs => ?_⟩
    · cases had
      refine ⟨rfl, fun i s hi => ?_⟩
      rw [List.getElem?_map] at hi
      cases hr : (List.range len)[i]? with
      | none => rw [hr] at hi; cases hi
      | some j =>
        rw [hr] at hi
        cases hi
        have hlt : i < len := by simpa using (List.getElem?_eq_some_iff.1 hr).1
        have hj : j = i := by have := (List.getElem?_eq_some_iff.1 hr).2; simp at this; exact this.symm
        subst hj
        obtain ⟨h1, _, _, h4, h5, h6⟩ := hf j hlt
        obtain ⟨_, _, hcell⟩ := World.cells?_some h1
        have g0 := hcell 0 (by omega)
        have g1 := hcell 1 (by omega)
        have g2 := hcell 2 (by omega)
        have g3 := hcell 3 (by omega)
        have g4 := hcell 4 (by omega)
        simp only [addr_add, Nat.add_zero] at g0 g1 g2 g3 g4
        exact ⟨g0, g1, g2, g3, g4, h4, h5, h6⟩
    · obtain ⟨i, hi, rfl⟩ := List.mem_map.1 hs
      exact ⟨(hf i (List.mem_range.1 hi)).2.1, (hf i (List.mem_range.1 hi)).2.2.1⟩
/-- What a script has that is not too great. -/
theorem vastD_no {n : Int} {ss : List StpM} (hm : ∀ s ∈ ss, s.m = s.ks.length ∧ s.m2 = s.bs.length) (hv : vastD n (ss.map StpM.sz) = false) (h2 : n ≤ 65536) : n ≤ 8 ∧ ss.length ≤ 25 ∧ ∀ s ∈ ss, s.bs.length ≤ 2048 ∧ s.ks.length ≤ 30 := by
  unfold vastD at hv
  rw [Bool.or_eq_false_iff, Bool.or_eq_false_iff] at hv
  obtain ⟨⟨a1, a2⟩, a3⟩ := hv
  rw [Bool.and_eq_false_iff, decide_eq_false_iff_not, decide_eq_false_iff_not] at a1
  rw [decide_eq_false_iff_not, List.length_map] at a2
  refine ⟨by omega, by omega, fun s hs => ?_⟩
  have b3 : bigD s.sz = false := by
    cases e : bigD s.sz with
    | false => rfl
    | true =>
      have : (ss.map StpM.sz).any bigD = true := List.any_eq_true.2 ⟨_, List.mem_map.2 ⟨s, hs, rfl⟩, e⟩
      rw [a3] at this; cases this
  obtain ⟨b4, b5⟩ := hm s hs
  unfold bigD StpM.sz at b3
  rw [Bool.or_eq_false_iff, Bool.or_eq_false_iff, decide_eq_false_iff_not, decide_eq_false_iff_not] at b3
  obtain ⟨⟨b6, b7⟩, _⟩ := b3
  dsimp only at b6 b7
  omega
end Go.Proofs.Ytmgajgeoibbmjaa
