/- BookPlay: for every number of blocks and every script the law returns true, and the arguments read as they did. No condition. -/
import Derived.Test.YtfpmdagchbbkcaaCutsProofs
import Derived.Test.YtfpmdagchbbkcaaPlay
import Derived.Deep.Slices
namespace Go.Proofs.Ytfpmdagchbbkcaa
open Go.ChangeShapes Go.WideShapes Go.ChangeAt Go.RowKit Go.Joins

/-- A slice that comes in at the top has an address of a whole block. -/
theorem okWide_slice {P : Program} {w : World} {r : Reach} {b : Nat} {t e : TypeId} {v : Value} (ht : P.underlying t = some (.slice e)) (h : Value.okWide P w r b t v) : ∀ a n c, v = .slice (some a) n c → a.spot = none := by
  rintro a n c rfl
  simp only [Value.okWide, ht, Cell.okWide, Cell.ok, World.has] at h
  exact h.2.2.2.1
theorem okWide_slice_form {P : Program} {w : World} {r : Reach} {b : Nat} {t e : TypeId} {v : Value} (ht : P.underlying t = some (.slice e)) (h : Value.okWide P w r b t v) : ∃ a n c, v = .slice a n c := by
  simp only [Value.okWide, ht, Cell.okWide, Cell.ok] at h
  cases v with
  | slice a n c => exact ⟨a, n, c, rfl⟩
  | _ => simp at h
set_option maxRecDepth 100000 in
/-- A step that came in: its four cells. -/
theorem open_step {H : Type} {enc : TypeId × Value → H} {w : World} {base : Nat} {held : Bool} {fuel : Nat} {cs : List Value} {y : DataW H × List MemPlace} (h : DataW.trod enc Try.prog w base (fun _ => true) held fuel 25 cs = some y) :
    ∃ s : StepM, cs = [.int .i64 s.kd, .int .i64 s.num, .string (strB s.ls), .slice s.q s.m s.c] ∧ s.m ≤ s.c ∧ s.m = s.picks.length ∧ RdI w (.slice s.q s.m s.c) s.picks := by
  obtain ⟨y0, y1, y2, y3, m, _, hlen, k0, k1, k2, k3⟩ := trod_struct4 Try.underlying25 h
  have hc : Try.prog.cellsOf 25 = 4 := by kernel_rfl
  have hi : Try.prog.cellsOf 3 = 1 := by kernel_rfl
  have hst : Try.prog.cellsOf 9 = 1 := by kernel_rfl
  have hsl : Try.prog.cellsOf 23 = 1 := by kernel_rfl
  rw [hc] at hlen
  match cs, hlen with
  | [c0, c1, c2, c3], _ =>
    simp only [hi, hst, hsl] at k0 k1 k2 k3
    obtain ⟨kd, e0, _⟩ := DataW.trod_int Try.underlying3 k0
    obtain ⟨num, e1, _⟩ := DataW.trod_int Try.underlying3 k1
    obtain ⟨ss, e2, _⟩ := DataW.trod_string Try.underlying9 k2
    obtain ⟨q, m', c, picks, e3, hmc, hm, hrd⟩ := open_picks (v := c3) k3
    refine ⟨⟨kd, num, sl ss, q, m', c, picks⟩, ?_, hmc, hm, hrd⟩
    obtain rfl : c0 = _ := (List.cons.inj e0).1
    obtain rfl : c1 = _ := (List.cons.inj e1).1
    obtain rfl : c2 = _ := (List.cons.inj e2).1
    subst e3
    simp only [strB_sl]
instance : Inhabited StepM := ⟨⟨0, 0, [], none, 0, 0, []⟩⟩
/-- A script that came in. -/
theorem open_script {H : Type} {enc : TypeId × Value → H} {w : World} {base : Nat} {held : Bool} {fuel : Nat} {v : Value} {y : DataW H × List MemPlace} (hs : ∀ a n c, v = .slice (some a) n c → a.spot = none) (h : DataW.trod enc Try.prog w base (fun _ => true) held fuel 27 [v] = some y) :
    ∃ ss, ScriptAt w v ss ∧ ∀ s ∈ ss, s.m = s.picks.length := by
  rcases Go.Deep.open_slice Try.underlying27 h with ⟨h, _⟩ | ⟨a, len, cap, m, n, D, Pl, h, _, hl, _, hm, _, hel⟩
  · cases h
    exact ⟨[], ⟨none, 0, rfl, fun _ => rfl, fun ad h => by cases h⟩, by simp⟩
  · cases h
    have hsp := hs a len cap rfl
    have hlm : len ≤ m := by rw [hm]; simpa using hl
    have hc : Try.prog.cellsOf 25 = 4 := by kernel_rfl
    rw [hc] at hel
    obtain ⟨f, hf⟩ := Go.Deep.choose_lt (n := len) (α := StepM) (p := fun i s => w.cells? base (a.add (i * 4)) 4 = some [.int .i64 s.kd, .int .i64 s.num, .string (strB s.ls), .slice s.q s.m s.c] ∧ s.m ≤ s.c ∧ s.m = s.picks.length ∧ RdI w (.slice s.q s.m s.c) s.picks) (fun i hi => by
      obtain ⟨cs', h1, h2⟩ := hel i (by omega)
      obtain ⟨s, rfl, k⟩ := open_step h2
      exact ⟨s, h1, k⟩)
    obtain ⟨ab, ao, asp⟩ := a
    simp only at hsp
    subst hsp
    refine ⟨(List.range len).map f, ⟨some ⟨ab, ao, none⟩, cap, by simp, fun h => (by cases h), fun ad had => ?_⟩, fun s hs => ?_⟩
    · cases had
      refine ⟨rfl, fun i s hi => ?_⟩
      rw [List.getElem?_map] at hi
      cases hr : (List.range len)[i]? with
      | none => rw [hr] at hi; cases hi
      | some j =>
        rw [hr] at hi
        cases hi
        have hlt : i < len := by simpa using (List.getElem?_eq_some_iff.1 hr).1
        have hj : j = i := by have := (List.getElem?_eq_some_iff.1 hr).2; simp at this; exact this.symm
        subst hj
        obtain ⟨h1, h2, h3, h4⟩ := hf j hlt
        obtain ⟨_, _, hcell⟩ := World.cells?_some h1
        have g0 := hcell 0 (by omega)
        have g1 := hcell 1 (by omega)
        have g2 := hcell 2 (by omega)
        have g3 := hcell 3 (by omega)
        simp only [addr_add, Nat.add_zero] at g0 g1 g2 g3
        exact ⟨g0, g1, g2, g3, h4, h2⟩
    · obtain ⟨i, hi, rfl⟩ := List.mem_map.1 hs
      exact (hf i (List.mem_range.1 hi)).2.2.1

theorem play_all (n : Int) (v : Value) (ss : List StepM) (w : World) (hs : ScriptAt w v ss) (hm : ∀ s ∈ ss, s.m = s.picks.length) :
    Calls Try.prog 6 #[.int .i64 n, v] w fun e w' => e = .returned (.bool true) ∧ Below w.heap.size w w' := by
  by_cases h : vastB n (ss.map StepM.sz) = true ∨ n < 4 ∨ 65536 < n
  · exact play_known n v ss w hs h
  · have hv : vastB n (ss.map StepM.sz) = false := by
      cases e : vastB n (ss.map StepM.sz) with
      | true => exact absurd (Or.inl e) h
      | false => rfl
    have h2 : 4 ≤ n := by by_cases h1 : n < 4; exact absurd (Or.inr (Or.inl h1)) h; omega
    have h3 : n ≤ 65536 := by by_cases h1 : 65536 < n; exact absurd (Or.inr (Or.inr h1)) h; omega
    obtain ⟨N, rfl⟩ : ∃ N : Nat, n = (N : Int) := ⟨n.toNat, by omega⟩
    have hv2 := hv
    unfold vastB at hv2
    rw [Bool.or_eq_false_iff, Bool.or_eq_false_iff] at hv2
    obtain ⟨⟨a1, a2⟩, a3⟩ := hv2
    have b1 : N ≤ 12 := by
      rw [Bool.and_eq_false_iff, decide_eq_false_iff_not, decide_eq_false_iff_not] at a1
      omega
    have b2 : ss.length ≤ 15 := by
      rw [decide_eq_false_iff_not, List.length_map] at a2
      omega
    refine play_main N v ss w hs hv (by omega) b1 b2 fun s hs' => ?_
    have b3 : bigStep s.sz = false := by
      cases e : bigStep s.sz with
      | false => rfl
      | true =>
        have : (ss.map StepM.sz).any bigStep = true := List.any_eq_true.2 ⟨_, List.mem_map.2 ⟨s, hs', rfl⟩, e⟩
        rw [a3] at this; cases this
    have b4 := hm s hs'
    unfold bigStep StepM.sz at b3
    rw [Bool.or_eq_false_iff, decide_eq_false_iff_not, decide_eq_false_iff_not] at b3
    obtain ⟨b5, b6⟩ := b3
    dsimp only at b5 b6
    omega

set_option maxRecDepth 100000 in
theorem play_lifted (os : Os) (started : os.Started) (H : Type) (enc : TypeId × Value → H) :
    ReturnsInHanded {} Try.checked os 6 .any (Rows.bookPlaySpec.pre6 enc Try.prog Try.f6 Rows.bookPlayRow.domain false) (Rows.bookPlaySpec.post enc Try.prog Try.f6 false true false false) := by
  refine returnsInHanded_of_change (C := Try.checked) ownT started (by kernel_rfl) Try.func6
    (ChangeSpec.witness6 (enc := enc) (C := Try.checked) false ⟨#[], #[.int .i64 0, .slice none 0 0], []⟩ 8 (by kernel_rfl) (by kernel_rfl) (by kernel_rfl) (by kernel_rfl)) ?_
  intro W base args ds gs before hval0 hW hcnd _
  have hval : ∀ (j : Nat) t v, Try.f6.params[j]? = some t → args[j]? = some v → Value.okWide Try.prog W .any base t v := hval0
  have hW' := hW
  obtain ⟨p, q, hA0, hV, rfl, hfz, hnd⟩ := hW
  have hA : DataW.TrodAll enc Try.prog W 0 (fun _ => true) true Try.f6.params.toList args.toList ds p := hA0
  rw [Try.params6] at hA hval
  obtain ⟨v0, vs0, d0, ds0, p0, q0, hargs, rfl, rfl, h0, r0⟩ := trodAll_cons hA
  obtain ⟨v1, vs1, d1, ds1, p1, q1, rfl, rfl, rfl, h1, r1⟩ := trodAll_cons r0
  obtain ⟨rfl, rfl, rfl⟩ := trodAll_nil r1
  obtain rfl : args = #[v0, v1] := by cases args; simp_all
  obtain ⟨n, rfl, rfl, rfl, hn⟩ := open_int Try.underlying3 (hval 0 3 v0 rfl rfl) h0
  have hok := hval 1 27 v1 rfl rfl
  obtain ⟨fuel, hf⟩ := h1
  have hsp := okWide_slice Try.underlying27 hok
  obtain ⟨sa, sn, sc, rfl⟩ := okWide_slice_form Try.underlying27 hok
  obtain ⟨ss, hs, hm⟩ := open_script hsp hf
  refine (play_all n _ ss W hs hm).mono fun e W' ⟨he, hg⟩ => ?_
  subst he
  exact ⟨_, rfl, law_post laidT (by decide +kernel) Try.underlying4 (by kernel_rfl) rfl hW' rfl hg⟩

theorem play_holds : Rows.BookPlaySaid :=
  OpenClaim.holds_of_wide 6 Try.f6 rfl rfl rfl rfl rfl rfl rfl ⟨rfl, rfl, rfl, rfl, rfl⟩ rfl rfl rfl rfl rfl (by kernel_rfl) Try.func6 (by kernel_rfl)
    (of_decide_eq_true (by kernel_rfl)) (by unfold Func.isWrapper; first | (rw [if_pos (by decide +kernel)]; kernel_rfl) | (rw [if_neg (by decide +kernel)]; exact ⟨rfl, rfl⟩))
    (fun os started H enc _ => play_lifted os started H enc)
#print axioms play_holds
end Go.Proofs.Ytfpmdagchbbkcaa
