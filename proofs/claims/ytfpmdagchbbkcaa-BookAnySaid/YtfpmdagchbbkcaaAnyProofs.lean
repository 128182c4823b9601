/- BookAny: for every number of blocks, every two heads and every step the law returns true, and the arguments read as they did. No condition. -/
import Derived.Test.YtfpmdagchbbkcaaLift
import Derived.Test.YtfpmdagchbbkcaaAny2
namespace Go.Proofs.Ytfpmdagchbbkcaa
open Go.ChangeShapes Go.WideShapes Go.ChangeAt Go.RowKit Go.Joins

theorem any_all (n : Int) (s0 s1 ss : ByteArray) (kd num : Int) (q : Option Addr) (m c : Nat) (w : World) :
    Calls Try.prog 3 #[.int .i64 n, .agg #[.string s0, .string s1], .agg #[.int .i64 kd, .int .i64 num, .string ss, .slice q m c]] w fun e w' => e = .returned (.bool true) ∧ Below w.heap.size w w' := by
  rw [← strB_sl s0, ← strB_sl s1, ← strB_sl ss]
  generalize sl s0 = l0
  generalize sl s1 = l1
  generalize sl ss = ls
  by_cases h : vastB n [(ls.length, m)] = true ∨ 512 < l0.length ∨ 512 < l1.length ∨ n < 4 ∨ 65536 < n
  · exact any_known n l0 l1 ls kd num q m c w h
  · have hv : vastB n [(ls.length, m)] = false := by
      cases e : vastB n [(ls.length, m)] with
      | true => exact absurd (Or.inl e) h
      | false => rfl
    have h0 : l0.length ≤ 512 := by by_cases h1 : 512 < l0.length; exact absurd (Or.inr (Or.inl h1)) h; omega
    have h1 : l1.length ≤ 512 := by by_cases h1 : 512 < l1.length; exact absurd (Or.inr (Or.inr (Or.inl h1))) h; omega
    have h2 : 4 ≤ n := by by_cases h1 : n < 4; exact absurd (Or.inr (Or.inr (Or.inr (Or.inl h1)))) h; omega
    have h3 : n ≤ 65536 := by by_cases h1 : 65536 < n; exact absurd (Or.inr (Or.inr (Or.inr (Or.inr h1)))) h; omega
    obtain ⟨N, rfl⟩ : ∃ N : Nat, n = (N : Int) := ⟨n.toNat, by omega⟩
    have hv2 := hv
    simp only [vastB, Bool.or_eq_false_iff, Bool.and_eq_false_iff, decide_eq_false_iff_not, List.any_cons, List.any_nil, bigStep] at hv2
    exact any_main N l0 l1 ls kd num q m c w hv h0 h1 (by omega) (by omega) (by omega)

set_option maxRecDepth 100000 in
theorem any_lifted (os : Os) (started : os.Started) (H : Type) (enc : TypeId × Value → H) :
    ReturnsInHanded {} Try.checked os 3 .any (Rows.bookAnySpec.pre6 enc Try.prog Try.f3 Rows.bookAnyRow.domain false) (Rows.bookAnySpec.post enc Try.prog Try.f3 false true false false) := by
  refine returnsInHanded_of_change (C := Try.checked) ownT started (by kernel_rfl) Try.func3
    (ChangeSpec.witness6 (enc := enc) (C := Try.checked) false ⟨#[], #[.int .i64 0, .agg #[.string .empty, .string .empty], .agg #[.int .i64 0, .int .i64 0, .string .empty, .slice none 0 0]], []⟩ 8 (by kernel_rfl) (by kernel_rfl) (by kernel_rfl) (by kernel_rfl)) ?_
  intro W base args ds gs before hval0 hW hcnd _
  have hval : ∀ (j : Nat) t v, Try.f3.params[j]? = some t → args[j]? = some v → Value.okWide Try.prog W .any base t v := hval0
  have hW' := hW
  obtain ⟨p, q, hA0, hV, rfl, hfz, hnd⟩ := hW
  have hA : DataW.TrodAll enc Try.prog W 0 (fun _ => true) true Try.f3.params.toList args.toList ds p := hA0
  rw [Try.params3] at hA hval
  obtain ⟨v0, vs0, d0, ds0, p0, q0, hargs, rfl, rfl, h0, r0⟩ := trodAll_cons hA
  obtain ⟨v1, vs1, d1, ds1, p1, q1, rfl, rfl, rfl, h1, r1⟩ := trodAll_cons r0
  obtain ⟨v2, vs2, d2, ds2, p2, q2, rfl, rfl, rfl, h2, r2⟩ := trodAll_cons r1
  obtain ⟨rfl, rfl, rfl⟩ := trodAll_nil r2
  obtain rfl : args = #[v0, v1, v2] := by cases args; simp_all
  obtain ⟨n, rfl, rfl, rfl, hn⟩ := open_int Try.underlying3 (hval 0 3 v0 rfl rfl) h0
  obtain ⟨s0, s1, rfl⟩ := open_str2 Try.underlying22 Try.underlying9 (by kernel_rfl) (by kernel_rfl) (hval 1 22 v1 rfl rfl) h1
  obtain ⟨c0, c1, c2, c3, y0, y1, y2, y3, m, rfl, _, _, k0, k1, k2, k3⟩ := open_agg4 Try.underlying25 (by kernel_rfl) (by kernel_rfl) (hval 2 25 v2 rfl rfl) h2
  obtain ⟨kd, e0, _⟩ := DataW.trod_int Try.underlying3 k0
  obtain ⟨num, e1, _⟩ := DataW.trod_int Try.underlying3 k1
  obtain ⟨ss, e2, _⟩ := DataW.trod_string Try.underlying9 k2
  obtain ⟨sa, sn, sc, e3⟩ := slice_form Try.underlying23 k3
  obtain rfl : c0 = _ := (List.cons.inj e0).1
  obtain rfl : c1 = _ := (List.cons.inj e1).1
  obtain rfl : c2 = _ := (List.cons.inj e2).1
  obtain rfl : c3 = _ := (List.cons.inj e3).1
  clear hA0 hval0
  refine (any_all n s0 s1 ss kd num sa sn sc W).mono fun e W' ⟨he, hg⟩ => ?_
  subst he
  exact ⟨_, rfl, law_post laidT (by decide +kernel) Try.underlying4 (by kernel_rfl) rfl hW' rfl hg⟩

theorem any_holds : Rows.BookAnySaid :=
  OpenClaim.holds_of_wide 3 Try.f3 rfl rfl rfl rfl rfl rfl rfl ⟨rfl, rfl, rfl, rfl, rfl⟩ rfl rfl rfl rfl rfl (by kernel_rfl) Try.func3 (by kernel_rfl)
    (of_decide_eq_true (by kernel_rfl)) (by unfold Func.isWrapper; first | (rw [if_pos (by decide +kernel)]; kernel_rfl) | (rw [if_neg (by decide +kernel)]; exact ⟨rfl, rfl⟩))
    (fun os started H enc _ => any_lifted os started H enc)
#print axioms any_holds
end Go.Proofs.Ytfpmdagchbbkcaa
