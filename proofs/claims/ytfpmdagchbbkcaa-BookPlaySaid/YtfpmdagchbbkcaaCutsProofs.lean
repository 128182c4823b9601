/- BookCuts: for every number of blocks, every step and every cut the law returns true, and the arguments read as they did. No condition. -/
import Derived.Test.YtfpmdagchbbkcaaLift
import Derived.Test.YtfpmdagchbbkcaaCutsM
import Derived.ChangeSlices
namespace Go.Proofs.Ytfpmdagchbbkcaa
open Go.ChangeShapes Go.WideShapes Go.ChangeAt Go.RowKit Go.Joins

/-- A slice of ints that came in. -/
theorem open_picks {H : Type} {enc : TypeId × Value → H} {w : World} {base : Nat} {held : Bool} {fuel : Nat} {v : Value} {y : DataW H × List MemPlace} (h : DataW.trod enc Try.prog w base (fun _ => true) held fuel 23 [v] = some y) :
    ∃ q m c picks, v = .slice q m c ∧ m ≤ c ∧ m = List.length picks ∧ RdI w (.slice q m c) picks := by
  rcases open_ints Try.underlying23 Try.underlying3 (by kernel_rfl) h with ⟨h, _⟩ | ⟨a, len, cap, zs, h, _, hl, _, hzl, _, hcell, _⟩
  · cases h
    exact ⟨none, 0, 0, [], rfl, Nat.le_refl _, rfl, none, 0, rfl, fun _ => rfl, fun ad h => by cases h⟩
  · cases h
    have hlen : len = (zs.take len).length := by rw [List.length_take, hzl]; simp; omega
    have hz : len ≤ zs.length := by rw [hzl]; simpa using hl
    have hspot : ∀ i, i < len → a.spot = none ∧ w.cell? ⟨a.block, a.off + i, none⟩ = some (.int .i64 (zs.getD i 0)) := fun i hi => by
      have h0 := hcell 0 (by omega)
      have hs : a.spot = none := by
        have := World.cell?_spot h0
        simpa [Addr.add] using this
      have hi' := hcell i (by omega)
      obtain ⟨ab, ao, asp⟩ := a
      simp only at hs
      subst hs
      rw [addr_add] at hi'
      exact ⟨rfl, hi'⟩
    refine ⟨some a, len, cap, zs.take len, rfl, hl, hlen, some a, cap, by rw [← hlen], fun h => (by cases h), fun ad had => ?_⟩
    cases had
    refine ⟨fun hne => (hspot 0 (by
      rcases Nat.eq_zero_or_pos len with e | e
      · subst e; simp at hne
      · exact e)).1, fun i k hi => ?_⟩
    rw [List.getElem?_take] at hi
    split at hi
    · rename_i hlt
      have := (hspot i hlt).2
      rw [List.getD, hi] at this
      exact this
    · cases hi

theorem cuts_all (n cut : Int) (ss : ByteArray) (kd num : Int) (q : Option Addr) (m c : Nat) (w : World) (picks : List Int) (hrd : RdI w (.slice q m c) picks) (hmc : m ≤ c) (hm : m = picks.length) :
    Calls Try.prog 5 #[.int .i64 n, .agg #[.int .i64 kd, .int .i64 num, .string ss, .slice q m c], .int .i64 cut] w fun e w' => e = .returned (.bool true) ∧ Below w.heap.size w w' := by
  rw [← strB_sl ss]
  generalize sl ss = ls
  by_cases h : vastB n [(ls.length, m)] = true ∨ n < 4 ∨ 65536 < n ∨ anyNeg picks = true ∨ cut < 0 ∨ 3 < cut
  · exact cuts_known n cut ls kd num q m c w picks hrd h
  · have hv : vastB n [(ls.length, m)] = false := by
      cases e : vastB n [(ls.length, m)] with
      | true => exact absurd (Or.inl e) h
      | false => rfl
    have hng : anyNeg picks = false := by
      cases e : anyNeg picks with
      | true => exact absurd (Or.inr (Or.inr (Or.inr (Or.inl e)))) h
      | false => rfl
    have h2 : 4 ≤ n := by by_cases h1 : n < 4; exact absurd (Or.inr (Or.inl h1)) h; omega
    have h3 : n ≤ 65536 := by by_cases h1 : 65536 < n; exact absurd (Or.inr (Or.inr (Or.inl h1))) h; omega
    have h4 : 0 ≤ cut := by by_cases h1 : cut < 0; exact absurd (Or.inr (Or.inr (Or.inr (Or.inr (Or.inl h1))))) h; omega
    have h5 : cut ≤ 3 := by by_cases h1 : 3 < cut; exact absurd (Or.inr (Or.inr (Or.inr (Or.inr (Or.inr h1))))) h; omega
    obtain ⟨N, rfl⟩ : ∃ N : Nat, n = (N : Int) := ⟨n.toNat, by omega⟩
    obtain ⟨C, rfl⟩ : ∃ C : Nat, cut = (C : Int) := ⟨cut.toNat, by omega⟩
    have hv2 := hv
    simp only [vastB, Bool.or_eq_false_iff, Bool.and_eq_false_iff, decide_eq_false_iff_not, List.any_cons, List.any_nil, bigStep] at hv2
    exact cuts_main N C ls kd num q m c w picks hrd hmc hv (by omega) (by omega) (by omega) (by omega) hng (by omega)

set_option maxRecDepth 100000 in
theorem cuts_lifted (os : Os) (started : os.Started) (H : Type) (enc : TypeId × Value → H) :
    ReturnsInHanded {} Try.checked os 5 .any (Rows.bookCutsSpec.pre6 enc Try.prog Try.f5 Rows.bookCutsRow.domain false) (Rows.bookCutsSpec.post enc Try.prog Try.f5 false true false false) := by
  refine returnsInHanded_of_change (C := Try.checked) ownT started (by kernel_rfl) Try.func5
    (ChangeSpec.witness6 (enc := enc) (C := Try.checked) false ⟨#[], #[.int .i64 0, .agg #[.int .i64 0, .int .i64 0, .string .empty, .slice none 0 0], .int .i64 0], []⟩ 8 (by kernel_rfl) (by kernel_rfl) (by kernel_rfl) (by kernel_rfl)) ?_
  intro W base args ds gs before hval0 hW hcnd _
  have hval : ∀ (j : Nat) t v, Try.f5.params[j]? = some t → args[j]? = some v → Value.okWide Try.prog W .any base t v := hval0
  have hW' := hW
  obtain ⟨p, q, hA0, hV, rfl, hfz, hnd⟩ := hW
  have hA : DataW.TrodAll enc Try.prog W 0 (fun _ => true) true Try.f5.params.toList args.toList ds p := hA0
  rw [Try.params5] at hA hval
  obtain ⟨v0, vs0, d0, ds0, p0, q0, hargs, rfl, rfl, h0, r0⟩ := trodAll_cons hA
  obtain ⟨v1, vs1, d1, ds1, p1, q1, rfl, rfl, rfl, h1, r1⟩ := trodAll_cons r0
  obtain ⟨v2, vs2, d2, ds2, p2, q2, rfl, rfl, rfl, h2, r2⟩ := trodAll_cons r1
  obtain ⟨rfl, rfl, rfl⟩ := trodAll_nil r2
  obtain rfl : args = #[v0, v1, v2] := by cases args; simp_all
  obtain ⟨n, rfl, rfl, rfl, hn⟩ := open_int Try.underlying3 (hval 0 3 v0 rfl rfl) h0
  obtain ⟨cut, rfl, rfl, rfl, hcut⟩ := open_int Try.underlying3 (hval 2 3 v2 rfl rfl) h2
  obtain ⟨c0, c1, c2, c3, y0, y1, y2, y3, m, rfl, _, _, k0, k1, k2, k3⟩ := open_agg4 Try.underlying25 (by kernel_rfl) (by kernel_rfl) (hval 1 25 v1 rfl rfl) h1
  obtain ⟨kd, e0, _⟩ := DataW.trod_int Try.underlying3 k0
  obtain ⟨num, e1, _⟩ := DataW.trod_int Try.underlying3 k1
  obtain ⟨ss, e2, _⟩ := DataW.trod_string Try.underlying9 k2
  obtain ⟨sa, sn, sc, picks, rfl, hmc, hm, hrd⟩ := open_picks k3
  obtain rfl : c0 = _ := (List.cons.inj e0).1
  obtain rfl : c1 = _ := (List.cons.inj e1).1
  obtain rfl : c2 = _ := (List.cons.inj e2).1
  clear hA0 hval0
  refine (cuts_all n cut ss kd num sa sn sc W picks hrd hmc hm).mono fun e W' ⟨he, hg⟩ => ?_
  subst he
  exact ⟨_, rfl, law_post laidT (by decide +kernel) Try.underlying4 (by kernel_rfl) rfl hW' rfl hg⟩

theorem cuts_holds : Rows.BookCutsSaid :=
  OpenClaim.holds_of_wide 5 Try.f5 rfl rfl rfl rfl rfl rfl rfl ⟨rfl, rfl, rfl, rfl, rfl⟩ rfl rfl rfl rfl rfl (by kernel_rfl) Try.func5 (by kernel_rfl)
    (of_decide_eq_true (by kernel_rfl)) (by unfold Func.isWrapper; first | (rw [if_pos (by decide +kernel)]; kernel_rfl) | (rw [if_neg (by decide +kernel)]; exact ⟨rfl, rfl⟩))
    (fun os started H enc _ => cuts_lifted os started H enc)
#print axioms cuts_holds
end Go.Proofs.Ytfpmdagchbbkcaa
