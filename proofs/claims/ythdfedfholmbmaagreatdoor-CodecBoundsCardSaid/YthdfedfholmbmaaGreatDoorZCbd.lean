/- CodecBounds: the law returns true, and the arguments read as they did. The listed tables of Go's library read as the program's text lays them. -/
import Derived.Test.YthdfedfholmbmaaGreatDoorZCbda
import Derived.Test.YthdfedfholmbmaaGreatDoorZCbdd
import Derived.Deep.Slices
import Derived.Test.YthdfedfholmbmaaGreatDoorCards
import Derived.Test.YthdfedfholmbmaaGreatDoorTie
set_option linter.unusedSimpArgs false
set_option linter.unusedVariables false
set_option maxRecDepth 100000
set_option maxHeartbeats 64000000
namespace Go.Proofs.YthdfedfholmbmaaGreatDoor
open Go.ChangeShapes Go.WideShapes Go.ChangeAt Go.RowKit Go.Joins
theorem codecBounds_lifted (os : Os) (started : os.Started) (H : Type) (enc : TypeId × Value → H) :
 ReturnsInHanded {} Tryz.checked os 6 .any (fun w args => (Rows.codecBoundsSpec.pre enc Tryz.prog Tryz.f6 [] false w args ∧ laidMetH Tryz.prog LD w) ∧ sizedMet enc Tryz.prog Tryz.f6 (OpenSpec.ofChange Rows.codecBoundsSpec) false w args)
  (Rows.codecBoundsSpec.post enc Tryz.prog Tryz.f6 false true false false) := by
 refine returns_tied started (by kernel_rfl) Tryz.func6 #[] (by kernel_rfl) (by kernel_rfl) (by kernel_rfl) (wit_shape _ _) (wit_laid _ _) ?_
 intro W base args ds gs before hval0 hW hz hE
 have hval : ∀ (j : Nat) t v, Tryz.f6.params[j]? = some t → args[j]? = some v → Value.okWide Tryz.prog W .any base t v := hval0
 have hW' := hW
 obtain ⟨p, q, hA0, hV, rfl, hfz, hnd⟩ := hW
 have hA : DataW.TrodAll enc Tryz.prog W 0 (fun _ => true) true Tryz.f6.params.toList args.toList ds p := hA0
 rw [Tryz.params6] at hA hval
 obtain ⟨hargs, rfl, rfl⟩ := trodAll_nil hA
 obtain ⟨rfl, rfl⟩ := trodVars_none hV
 obtain rfl : args = #[] := by cases args; simp_all
 clear hA0 hval0
 refine (cbounds_any hE).mono fun e W' ⟨he, hg⟩ => ?_
 subst he
 exact ⟨_, rfl, law_post laidT (by decide +kernel) Tryz.underlying4 (by kernel_rfl) rfl hW' rfl hg⟩
theorem codecBounds_row : Rows.CodecBoundsSaid :=
 OpenClaim.holds_of_wide 6 Tryz.f6 rfl rfl rfl rfl rfl rfl rfl ⟨rfl, rfl, rfl, rfl, rfl⟩ rfl rfl rfl rfl rfl (by kernel_rfl) Tryz.func6 (by kernel_rfl)
  (of_decide_eq_true (by kernel_rfl)) (by unfold Func.isWrapper; first | (rw [if_pos (by decide +kernel)]; kernel_rfl) | (rw [if_neg (by decide +kernel)]; exact ⟨rfl, rfl⟩))
  (fun os started H enc _ => codecBounds_lifted os started H enc)
theorem cbounds_law_holds : Rows.CodecBoundsCardSaid :=
 Claim7.holds_tied_plain_at .later [] [.data, .pinned] true (true, "51d6d183f3b9b26ed98afca7791da6a3b37e43a2ee8010f5d16b56af07fe616a") true
  codecBounds_row (fun _ h => by cases h) (by kernel_rfl) (fun _ h => by cases h) codecBounds_row_tie rfl ⟨rfl, rfl⟩ (by kernel_rfl) rfl
  (fun f fn hf hfn => by
    obtain rfl : f = 6 := Option.some.inj ((show Tryz.prog.funcNamed "lattice/latticelaw19.CodecBounds" = some 6 by kernel_rfl).symm.trans hf) |>.symm
    obtain rfl : fn = Tryz.f6 := (Option.some.inj (Tryz.func6.symm.trans hfn)).symm
    exact ⟨by kernel_rfl, fun j t ht => by
     rw [Tryz.params6] at ht
     simp at ht⟩)
  (by kernel_rfl)
#print axioms cbounds_law_holds
end Go.Proofs.YthdfedfholmbmaaGreatDoor
