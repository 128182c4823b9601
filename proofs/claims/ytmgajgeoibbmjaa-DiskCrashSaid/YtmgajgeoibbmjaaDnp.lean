/- DiskNil: for every step the law returns true, and the step reads as it did. No condition. -/
import Derived.Test.YtmgajgeoibbmjaaLift
import Derived.Test.YtmgajgeoibbmjaaDnv
namespace Go.Proofs.Ytmgajgeoibbmjaa
open Go.ChangeShapes Go.WideShapes Go.ChangeAt Go.RowKit Go.Joins Go.Deep

/-- A struct whose fields are of one cell each: each field's cell, and its reading. -/
theorem open_fields {H : Type} {enc : TypeId × Value → H} {P : Program} {w : World} {base : Nat} {spare : Nat → Bool} {held : Bool} {t : TypeId} {fs : Array Field} {fuel : Nat} {cs : List Value} {x : DataW H × List MemPlace} (hs : P.underlying t = some (.struct fs)) (hone : oneCellFields P fs = true) (hf : DataW.trod enc P w base spare held fuel t cs = some x) :
    ∀ (j : Nat) (f : Field) (u : Value), fs[j]? = some f → cs[j]? = some u → ∃ n y, DataW.trod enc P w base spare held n f.type [u] = some y := by
  obtain ⟨xs, n, _, _, hlen, hxl, hg⟩ := DataW.trod_struct hs hf
  intro j f u hj hu
  obtain ⟨ho, hk⟩ := hone_of hone j f hj
  have h1 := hg j f hj
  rw [ho, hk] at h1
  have hjl : j < cs.length := (List.getElem?_eq_some_iff.1 hu).1
  have e : (cs.drop j).take 1 = [u] := by
    rw [List.drop_eq_getElem_cons hjl]
    have := (List.getElem?_eq_some_iff.1 hu).2
    simp [this]
  have hx : j < xs.length := by rw [hxl]; exact (Array.getElem?_eq_some_iff.1 hj).1
  rw [e, List.getElem?_eq_getElem hx] at h1
  exact ⟨n, _, h1⟩
theorem list5 {α : Type} : ∀ {cs : List α}, cs.length = 5 → ∃ c0 c1 c2 c3 c4, cs = [c0, c1, c2, c3, c4]
  | [c0, c1, c2, c3, c4], _ => ⟨c0, c1, c2, c3, c4, rfl⟩
/-- A step's five cells. -/
theorem open_stepD {H : Type} {enc : TypeId × Value → H} {w : World} {base : Nat} {held : Bool} {fuel : Nat} {cs : List Value} {y : DataW H × List MemPlace} (h : DataW.trod enc Try.prog w base (fun _ => true) held fuel 37 cs = some y) :
    ∃ (kd at_ num : Int) (c3 c4 : Value), cs = [.int .i64 kd, .int .i64 at_, .int .i64 num, c3, c4] ∧ (∃ n y, DataW.trod enc Try.prog w base (fun _ => true) held n 35 [c3] = some y) ∧ (∃ n y, DataW.trod enc Try.prog w base (fun _ => true) held n 31 [c4] = some y) := by
  have hc5 : Try.prog.cellsOf 37 = 5 := by kernel_rfl
  obtain ⟨_, _, _, _, hlen, _, _⟩ := DataW.trod_struct Try.underlying37 h
  obtain ⟨c0, c1, c2, c3, c4, rfl⟩ := list5 (hlen.trans hc5)
  have hfl := open_fields Try.underlying37 (by kernel_rfl) h
  obtain ⟨_, _, k0⟩ : ∃ n y, DataW.trod enc Try.prog w base (fun _ => true) held n 3 [c0] = some y := hfl 0 _ c0 rfl rfl
  obtain ⟨_, _, k1⟩ : ∃ n y, DataW.trod enc Try.prog w base (fun _ => true) held n 3 [c1] = some y := hfl 1 _ c1 rfl rfl
  obtain ⟨_, _, k2⟩ : ∃ n y, DataW.trod enc Try.prog w base (fun _ => true) held n 3 [c2] = some y := hfl 2 _ c2 rfl rfl
  have k3 : ∃ n y, DataW.trod enc Try.prog w base (fun _ => true) held n 35 [c3] = some y := hfl 3 _ c3 rfl rfl
  have k4 : ∃ n y, DataW.trod enc Try.prog w base (fun _ => true) held n 31 [c4] = some y := hfl 4 _ c4 rfl rfl
  obtain ⟨kd, e0, _⟩ := DataW.trod_int Try.underlying3 k0
  obtain ⟨at_, e1, _⟩ := DataW.trod_int Try.underlying3 k1
  obtain ⟨num, e2, _⟩ := DataW.trod_int Try.underlying3 k2
  obtain rfl : c0 = _ := (List.cons.inj e0).1
  obtain rfl : c1 = _ := (List.cons.inj e1).1
  obtain rfl : c2 = _ := (List.cons.inj e2).1
  exact ⟨kd, at_, num, c3, c4, rfl, k3, k4⟩

set_option maxRecDepth 100000 in
set_option maxHeartbeats 1000000 in
theorem nil_lifted (os : Os) (started : os.Started) (H : Type) (enc : TypeId × Value → H) :
    ReturnsInHanded {} Try.checked os 5 .any (Rows.diskNilSpec.pre6 enc Try.prog Try.f5 Rows.diskNilRow.domain false) (Rows.diskNilSpec.post enc Try.prog Try.f5 false true false false) := by
  refine returnsInHanded_of_change (C := Try.checked) ownT started (by kernel_rfl) Try.func5
    (ChangeSpec.witness6 (enc := enc) (C := Try.checked) false ⟨#[], #[.agg #[.int .i64 0, .int .i64 0, .int .i64 0, .slice none 0 0, .slice none 0 0]], []⟩ 8 (by kernel_rfl) (by kernel_rfl) (by kernel_rfl) (by kernel_rfl)) ?_
  intro W base args ds gs before hval0 hW hcnd _
  have hval : ∀ (j : Nat) t v, Try.f5.params[j]? = some t → args[j]? = some v → Value.okWide Try.prog W .any base t v := hval0
  have hW' := hW
  obtain ⟨p, q, hA0, hV, rfl, hfz, hnd⟩ := hW
  have hA : DataW.TrodAll enc Try.prog W 0 (fun _ => true) true Try.f5.params.toList args.toList ds p := hA0
  rw [Try.params5] at hA hval
  obtain ⟨v0, vs0, d0, ds0, p0, q0, hargs, rfl, rfl, h0, r0⟩ := trodAll_cons hA
  obtain ⟨rfl, rfl, rfl⟩ := trodAll_nil r0
  obtain rfl : args = #[v0] := by cases args; simp_all
  obtain ⟨cs, rfl, hsz⟩ := okWide_struct Try.underlying37 (hval 0 37 v0 rfl rfl)
  obtain ⟨fuel, hf⟩ := h0
  obtain ⟨kd, at_, num, c3, c4, hcs, ⟨_, _, k3⟩, ⟨_, _, k4⟩⟩ := open_stepD (cs := cs.toList) hf
  obtain ⟨q3, m3, s3, e3⟩ := slice_form Try.underlying35 k3
  obtain ⟨q4, m4, s4, e4⟩ := slice_form Try.underlying31 k4
  obtain rfl : c3 = _ := (List.cons.inj e3).1
  obtain rfl : c4 = _ := (List.cons.inj e4).1
  obtain rfl : cs = #[.int .i64 kd, .int .i64 at_, .int .i64 num, .slice q3 m3 s3, .slice q4 m4 s4] := by rw [← Array.toList_inj]; exact hcs
  refine (disk_nil kd at_ num q3 m3 s3 q4 m4 s4 W).mono fun e W' ⟨he, hg⟩ => ?_
  subst he
  exact ⟨_, rfl, law_post laidT (by decide +kernel) Try.underlying4 (by kernel_rfl) rfl hW' rfl hg⟩

theorem disk_nil_holds : Rows.DiskNilSaid :=
  OpenClaim.holds_of_wide 5 Try.f5 rfl rfl rfl rfl rfl rfl rfl ⟨rfl, rfl, rfl, rfl, rfl⟩ rfl rfl rfl rfl rfl (by kernel_rfl) Try.func5 (by kernel_rfl)
    (of_decide_eq_true (by kernel_rfl)) (by unfold Func.isWrapper; first | (rw [if_pos (by decide +kernel)]; kernel_rfl) | (rw [if_neg (by decide +kernel)]; exact ⟨rfl, rfl⟩))
    (fun os started H enc _ => nil_lifted os started H enc)
#print axioms disk_nil_holds
end Go.Proofs.Ytmgajgeoibbmjaa
