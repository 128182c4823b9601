/- ValueTotal: for every three values the law returns true, and the arguments read as they did. The listed tables of Go's library read as the program's text lays them. -/
import Derived.Test.YtnkaegdnjfpliaaGreatDoorVtied
import Derived.Test.YtnkaegdnjfpliaaGreatDoorVtotal
import Derived.Test.YtnkaegdnjfpliaaGreatDoorCards
import Derived.Test.YtnkaegdnjfpliaaGreatDoorTie
namespace Go.Proofs.YtnkaegdnjfpliaaGreatDoor
set_option linter.unusedSimpArgs false
set_option linter.unusedVariables false
open Go.ChangeShapes Go.WideShapes Go.ChangeAt Go.RowKit Go.Joins

set_option maxRecDepth 100000 in
theorem total_lifted (os : Os) (started : os.Started) (H : Type) (enc : TypeId × Value → H) :
    ReturnsInHanded {} Tryz.checked os 7 .any (fun w args => (Rows.valueTotalSpec.pre enc Tryz.prog Tryz.f7 [] false w args ∧ laidMetH Tryz.prog LD w) ∧ sizedMet enc Tryz.prog Tryz.f7 (OpenSpec.ofChange Rows.valueTotalSpec) false w args)
      (Rows.valueTotalSpec.post enc Tryz.prog Tryz.f7 false true false false) := by
  refine returns_tied started (by kernel_rfl) Tryz.func7 #[.agg (flatX 0 false 0 []), .agg (flatX 0 false 0 []), .agg (flatX 0 false 0 [])] (by kernel_rfl) (by kernel_rfl) (by kernel_rfl) (wit_shape _ _) (wit_laid _ _) ?_
  intro W base args ds gs before hval0 hW hz hE
  have hval : ∀ (j : Nat) t v, Tryz.f7.params[j]? = some t → args[j]? = some v → Value.okWide Tryz.prog W .any base t v := hval0
  have hW' := hW
  obtain ⟨p, q, hA0, hV, rfl, hfz, hnd⟩ := hW
  have hA : DataW.TrodAll enc Tryz.prog W 0 (fun _ => true) true Tryz.f7.params.toList args.toList ds p := hA0
  rw [Tryz.params7] at hA hval
  obtain ⟨v0, vs0, d0, ds0, p0, q0, hargs, rfl, rfl, h0, r0⟩ := trodAll_cons hA
  obtain ⟨v1, vs1, d1, ds1, p1, q1, rfl, rfl, rfl, h1, r1⟩ := trodAll_cons r0
  obtain ⟨v2, vs2, d2, ds2, p2, q2, rfl, rfl, rfl, h2, r2⟩ := trodAll_cons r1
  obtain ⟨rfl, rfl, rfl⟩ := trodAll_nil r2
  obtain ⟨rfl, rfl⟩ := trodVars_none hV
  obtain rfl : args = #[v0, v1, v2] := by cases args; simp_all
  rw [Tryz.params7] at hz
  obtain ⟨z0, z1, z2⟩ := fits_three hz
  obtain ⟨a, x, rfl, hx, _⟩ := value_in (hval 0 26 v0 rfl rfl) h0 z0
  obtain ⟨b, y, rfl, hy, _⟩ := value_in (hval 1 26 v1 rfl rfl) h1 z1
  obtain ⟨c, z, rfl, hc, _⟩ := value_in (hval 2 26 v2 rfl rfl) h2 z2
  clear hA0 hval0
  refine (total_any hE hx hy hc).mono fun e W' ⟨he, hg⟩ => ?_
  subst he
  exact ⟨_, rfl, law_post laidT (by decide +kernel) Tryz.underlying4 (by kernel_rfl) rfl hW' rfl hg⟩
theorem total_row : Rows.ValueTotalSaid :=
  OpenClaim.holds_of_wide 7 Tryz.f7 rfl rfl rfl rfl rfl rfl rfl ⟨rfl, rfl, rfl, rfl, rfl⟩ rfl rfl rfl rfl rfl (by kernel_rfl) Tryz.func7 (by kernel_rfl)
    (of_decide_eq_true (by kernel_rfl)) (by unfold Func.isWrapper; first | (rw [if_pos (by decide +kernel)]; kernel_rfl) | (rw [if_neg (by decide +kernel)]; exact ⟨rfl, rfl⟩))
    (fun os started H enc _ => total_lifted os started H enc)
theorem total_holds : Rows.ValueTotalCardSaid :=
  Claim7.holds_tied_plain_at .later [] [.data, .data, .data, .data, .pinned] true (true, "541050135a4ae63573153b942905868de3e811d8a5bb89e3a2a615778747f658") true
    total_row (fun _ h => by cases h) (by kernel_rfl) (fun _ h => by cases h) valueTotal_row_tie rfl ⟨rfl, rfl⟩ (by kernel_rfl) rfl
    (fun f fn hf hfn => by
      obtain rfl : f = 7 := Option.some.inj ((show Tryz.prog.funcNamed "lattice/latticelaw01.ValueTotal" = some 7 by kernel_rfl).symm.trans hf) |>.symm
      obtain rfl : fn = Tryz.f7 := (Option.some.inj (Tryz.func7.symm.trans hfn)).symm
      exact ⟨by kernel_rfl, fun j t ht => by
        rw [Tryz.params7] at ht
        have hm : t ∈ [26, 26, 26] := by simpa using Array.mem_of_getElem? ht
        have hall : ([26, 26, 26].all fun u => !Tryz.prog.wantsStandIn u) = true := by kernel_rfl
        exact (show Tryz.prog.wantsStandIn t = false by simpa using List.all_eq_true.1 hall t hm)⟩)
    (by kernel_rfl)
#print axioms total_holds
end Go.Proofs.YtnkaegdnjfpliaaGreatDoor
