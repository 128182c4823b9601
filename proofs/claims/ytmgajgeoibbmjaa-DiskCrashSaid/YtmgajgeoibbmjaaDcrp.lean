/- DiskCrash: for every number of blocks, every script and every block the law returns true, and the arguments read as they did. No condition. -/
import Derived.Test.YtmgajgeoibbmjaaDcr2
namespace Go.Proofs.Ytmgajgeoibbmjaa
open Go.ChangeShapes Go.WideShapes Go.ChangeAt Go.RowKit Go.Joins Go.Deep

theorem dcrash_all (n : Int) (v1 : Value) (s1 : List StpM) (t : Int) (w : World) (hs1 : ScrAt w v1 s1) (hm1 : ∀ s ∈ s1, s.m = s.ks.length ∧ s.m2 = s.bs.length) :
    Calls Try.prog 3 #[.int .i64 n, v1, .int .i64 t] w fun e w' => e = .returned (.bool true) ∧ Below w.heap.size w w' := by
  by_cases h : vastD n (s1.map StpM.sz) = true ∨ n < 1 ∨ 65536 < n ∨ t < 0 ∨ n ≤ t
  · exact dcrash_known n v1 s1 t w hs1 h
  · simp only [not_or, Bool.not_eq_true] at h
    obtain ⟨e1, e3, e4, e5, e6⟩ := h
    obtain ⟨N, rfl⟩ : ∃ N : Nat, n = (N : Int) := ⟨n.toNat, by omega⟩
    obtain ⟨T, rfl⟩ : ∃ T : Nat, t = (T : Int) := ⟨t.toNat, by omega⟩
    obtain ⟨a1, a2, a3⟩ := vastD_no hm1 e1 (by omega)
    exact dcrash_main N T v1 s1 w hs1 e1 (by omega) (by omega) (by omega) a2 a3

set_option maxRecDepth 100000 in
theorem dcrash_lifted (os : Os) (started : os.Started) (H : Type) (enc : TypeId × Value → H) :
    ReturnsInHanded {} Try.checked os 3 .any (Rows.diskCrashSpec.pre6 enc Try.prog Try.f3 Rows.diskCrashRow.domain false) (Rows.diskCrashSpec.post enc Try.prog Try.f3 false true false false) := by
  refine returnsInHanded_of_change (C := Try.checked) ownT started (by kernel_rfl) Try.func3
    (ChangeSpec.witness6 (enc := enc) (C := Try.checked) false ⟨#[], #[.int .i64 0, .slice none 0 0, .int .i64 0], []⟩ 8 (by kernel_rfl) (by kernel_rfl) (by kernel_rfl) (by kernel_rfl)) ?_
  intro W base args ds gs before hval0 hW hcnd _
  have hval : ∀ (j : Nat) t v, Try.f3.params[j]? = some t → args[j]? = some v → Value.okWide Try.prog W .any base t v := hval0
  have hW' := hW
  obtain ⟨p, q, hA0, hV, rfl, hfz, hnd⟩ := hW
  have hA : DataW.TrodAll enc Try.prog W 0 (fun _ => true) true Try.f3.params.toList args.toList ds p := hA0
  rw [Try.params3] at hA hval
  obtain ⟨v0, vs0, d0, ds0, p0, q0, hargs, rfl, rfl, h0, r0⟩ := trodAll_cons hA
  obtain ⟨v1, vs1, d1, ds1, p1, q1, rfl, rfl, rfl, h1, r1⟩ := trodAll_cons r0
  obtain ⟨v2, vs2, d2, ds2, p2, q2, rfl, rfl, rfl, h2, r2⟩ := trodAll_cons r1
  obtain ⟨rfl, rfl, rfl⟩ := trodAll_nil r2
  obtain rfl : args = #[v0, v1, v2] := by cases args; simp_all
  obtain ⟨n, rfl, rfl, rfl, hn⟩ := open_int Try.underlying3 (hval 0 3 v0 rfl rfl) h0
  obtain ⟨fuel1, hf1⟩ := h1
  obtain ⟨t, rfl, rfl, rfl, hn2⟩ := open_int Try.underlying3 (hval 2 3 v2 rfl rfl) h2
  obtain ⟨q1, m1, c1, rfl, hsp1⟩ := okWide_sl Try.underlying22 (hval 1 22 v1 rfl rfl)
  obtain ⟨s1, hs1, hm1⟩ := open_scr (fun a n c e => by cases e; exact hsp1 _ rfl) hf1
  refine (dcrash_all n _ s1 t W hs1 hm1).mono fun e W' ⟨he, hg⟩ => ?_
  subst he
  exact ⟨_, rfl, law_post laidT (by decide +kernel) Try.underlying4 (by kernel_rfl) rfl hW' rfl hg⟩

theorem crash_holds : Rows.DiskCrashSaid :=
  OpenClaim.holds_of_wide 3 Try.f3 rfl rfl rfl rfl rfl rfl rfl ⟨rfl, rfl, rfl, rfl, rfl⟩ rfl rfl rfl rfl rfl (by kernel_rfl) Try.func3 (by kernel_rfl)
    (of_decide_eq_true (by kernel_rfl)) (by unfold Func.isWrapper; first | (rw [if_pos (by decide +kernel)]; kernel_rfl) | (rw [if_neg (by decide +kernel)]; exact ⟨rfl, rfl⟩))
    (fun os started H enc _ => dcrash_lifted os started H enc)
#print axioms crash_holds
end Go.Proofs.Ytmgajgeoibbmjaa
