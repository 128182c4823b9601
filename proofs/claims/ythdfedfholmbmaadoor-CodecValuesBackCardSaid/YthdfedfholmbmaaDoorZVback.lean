/- CodecValuesBack: for every value and every value and every bytes the law returns true, and the arguments read as they did. The listed tables of Go's library read as the program's text lays them. -/
import Derived.Test.YthdfedfholmbmaaDoorZVbacka
import Derived.Test.YthdfedfholmbmaaDoorZVbacke
import Derived.Test.YthdfedfholmbmaaDoorCards
import Derived.Test.YthdfedfholmbmaaDoorTie
set_option linter.unusedSimpArgs false
set_option linter.unusedVariables false
namespace Go.Proofs.YthdfedfholmbmaaDoor
open Go.ChangeShapes Go.WideShapes Go.ChangeAt Go.RowKit Go.Joins
set_option maxRecDepth 100000 in
theorem codecValuesBack_lifted (os : Os) (started : os.Started) (H : Type) (enc : TypeId × Value → H) :
    ReturnsInHanded {} Tryd.checked os 4 .any (fun w args => (Rows.codecValuesBackSpec.pre enc Tryd.prog Tryd.f4 [] false w args ∧ laidMetH Tryd.prog LD w) ∧ sizedMet enc Tryd.prog Tryd.f4 (OpenSpec.ofChange Rows.codecValuesBackSpec) false w args)
      (Rows.codecValuesBackSpec.post enc Tryd.prog Tryd.f4 false true false false) := by
  refine returns_tied started (by kernel_rfl) Tryd.func4 #[.agg (flatX 0 false 0 []), .agg (flatX 0 false 0 []), .slice none 0 0] (by kernel_rfl) (by kernel_rfl) (by kernel_rfl) (wit_shape _ _) (wit_laid _ _) ?_
  intro W base args ds gs before hval0 hW hz hE
  have hval : ∀ (j : Nat) t v, Tryd.f4.params[j]? = some t → args[j]? = some v → Value.okWide Tryd.prog W .any base t v := hval0
  have hW' := hW
  obtain ⟨p, q, hA0, hV, rfl, hfz, hnd⟩ := hW
  have hA : DataW.TrodAll enc Tryd.prog W 0 (fun _ => true) true Tryd.f4.params.toList args.toList ds p := hA0
  rw [Tryd.params4] at hA hval
  obtain ⟨v0, vs0, d0, ds0, p0, q0, hargs, rfl, rfl, h0, r0⟩ := trodAll_cons hA
  obtain ⟨v1, vs1, d1, ds1, p1, q1, rfl, rfl, rfl, h1, r1⟩ := trodAll_cons r0
  obtain ⟨v2, vs2, d2, ds2, p2, q2, rfl, rfl, rfl, h2, r2⟩ := trodAll_cons r1
  obtain ⟨rfl, rfl, rfl⟩ := trodAll_nil r2
  obtain ⟨rfl, rfl⟩ := trodVars_none hV
  obtain rfl : args = #[v0, v1, v2] := by cases args; simp_all
  rw [Tryd.params4] at hz
  obtain ⟨z0, z1, z2⟩ := fits_three hz
  obtain ⟨a0, x0, rfl, hx0, hr0⟩ := value_in (hval 0 41 v0 rfl rfl) h0 z0
  obtain ⟨a1, x1, rfl, hx1, hr1⟩ := value_in (hval 1 41 v1 rfl rfl) h1 z1
  obtain ⟨b2, c2, l2, rfl, hb2⟩ := bytes_in (hval 2 23 v2 rfl rfl) h2
  clear hA0 hval0
  refine (vback_any hE hx0 hx1 hr0 hr1 hb2).mono fun e W' ⟨he, hg⟩ => ?_
  subst he
  exact ⟨_, rfl, law_post laidT (by decide +kernel) Tryd.underlying4 (by kernel_rfl) rfl hW' rfl hg⟩
theorem codecValuesBack_row : Rows.CodecValuesBackSaid :=
  OpenClaim.holds_of_wide 4 Tryd.f4 rfl rfl rfl rfl rfl rfl rfl ⟨rfl, rfl, rfl, rfl, rfl⟩ rfl rfl rfl rfl rfl (by kernel_rfl) Tryd.func4 (by kernel_rfl)
    (of_decide_eq_true (by kernel_rfl)) (by unfold Func.isWrapper; first | (rw [if_pos (by decide +kernel)]; kernel_rfl) | (rw [if_neg (by decide +kernel)]; exact ⟨rfl, rfl⟩))
    (fun os started H enc _ => codecValuesBack_lifted os started H enc)
theorem vback_law_holds : Rows.CodecValuesBackCardSaid :=
  Claim7.holds_tied_plain_at .later [] [.data, .pinned] true (true, "709afe38186c164a9543e760b53eb4bdac97fa7199998e345d1c0bd2c66e6684") true
    codecValuesBack_row (fun _ h => by cases h) (by kernel_rfl) (fun _ h => by cases h) codecValuesBack_row_tie rfl ⟨rfl, rfl⟩ (by kernel_rfl) rfl
    (fun f fn hf hfn => by
      obtain rfl : f = 4 := Option.some.inj ((show Tryd.prog.funcNamed "lattice/latticelaw19.CodecValuesBack" = some 4 by kernel_rfl).symm.trans hf) |>.symm
      obtain rfl : fn = Tryd.f4 := (Option.some.inj (Tryd.func4.symm.trans hfn)).symm
      exact ⟨by kernel_rfl, fun j t ht => by
        rw [Tryd.params4] at ht
        have hm : t ∈ [41, 41, 23] := by simpa using Array.mem_of_getElem? ht
        have hall : ([41, 41, 23].all fun u => !Tryd.prog.wantsStandIn u) = true := by kernel_rfl
        exact (show Tryd.prog.wantsStandIn t = false by simpa using List.all_eq_true.1 hall t hm)⟩)
    (by kernel_rfl)
#print axioms vback_law_holds
end Go.Proofs.YthdfedfholmbmaaDoor
