/- What the law's works meets: two maps. -/
import Derived.Test.YtnkaegdnjfpliaaGreatDoorVmap
import Derived.Test.YtnkaegdnjfpliaaGreatDoorVsize
import Derived.Test.YtnkaegdnjfpliaaGreatDoorVstor
namespace Go.Proofs.YtnkaegdnjfpliaaGreatDoor
set_option linter.unusedSimpArgs false
set_option linter.unusedVariables false
open Go.RowKit

/-- The map that is made. -/
def VM : V := .mk 5 false 0 [] [[97, 32, 98], [98]] [.mk 4 false 0 [] [] [.mk 0 false 0 [] [] [], .mk 1 true 0 [] [] []], .mk 2 false 2 [] [] []]
def VA : V := .mk 3 false 0 [97] [] []
theorem okM : okV VM = true := by kernel_rfl
theorem textM : textF VM = ([123, 96, 97, 32, 98, 96, 58, 32, 91, 110, 117, 108, 108, 44, 32, 116, 114, 117, 101, 93, 44, 32, 98, 58, 32, 50, 125], 0) := by kernel_rfl
theorem cmpMA : (if okV VM && okV VA then cmpV VM VA else 0) = -1 := by kernel_rfl
theorem eqMM : (if okV VM && okV VM then eqV VM VM else 1) = 1 := by kernel_rfl
theorem less12 : lessV (.mk 2 false 1 [] [] []) (.mk 2 false 2 [] [] []) = 2 := by kernel_rfl
theorem sameMM : (okV VM && okV VM && decide (cmpV VM VM = 0)) = true := by kernel_rfl
theorem totM : totV VM ≤ 1000 := by decide +kernel
theorem perm_two {q : List Nat} (h : q.Perm (List.range 2)) : q = [0, 1] ∨ q = [1, 0] := by
  have hl : q.length = 2 := by simpa using h.length_eq
  have hn : q.Nodup := h.nodup_iff.2 List.nodup_range
  have hm : ∀ a ∈ q, a < 2 := fun a ha => by simpa using (h.mem_iff.1 ha)
  match q, hl with
  | [a, b], _ =>
    have h1 := hm a (by simp)
    have h2 := hm b (by simp)
    have h3 : a ≠ b := by intro e; subst e; simp at hn
    have : (a = 0 ∧ b = 1) ∨ (a = 1 ∧ b = 0) := by omega
    rcases this with ⟨rfl, rfl⟩ | ⟨rfl, rfl⟩
    · exact .inl rfl
    · exact .inr rfl
def LM : List V := [.mk 2 false 2 [] [] [], .mk 4 false 0 [] [] [.mk 0 false 0 [] [] [], .mk 1 true 0 [] [] []]]
def L0 : List V := [.mk 0 false 0 [] [] [], .mk 0 false 0 [] [] []]
theorem map_one {w : World} {e : Ending} {w' : World} (h : MapOk w [[98], [97, 32, 98]] LM e w') :
    Below w.heap.size w w' ∧ ∃ x, e = .returned (.tuple #[.agg x, .int .i64 0]) ∧ VRd w' VM x := by
  obtain ⟨hb, x, no, v, rfl, hx, hc⟩ := h
  refine ⟨hb, x, ?_⟩
  rcases hc with ⟨_, _, hc⟩ | ⟨rfl, _, q, hq, rfl, hr⟩
  · exact absurd hc (by simp [LM])
  · rcases perm_two hq with rfl | rfl
    · exact absurd hr (by decide)
    · exact ⟨rfl, hx.rd (by simp [totV, totVs, LM])⟩
theorem map_two {w : World} {e : Ending} {w' : World} (h : MapOk w [[97], [97]] L0 e w') :
    Below w.heap.size w w' ∧ ∃ p0 n0 c0 p1 n1 c1 k b n t, e = .returned (.tuple #[.agg #[.int .i64 k, .bool b, .int .i64 n, .string t, .slice p0 n0 c0, .slice p1 n1 c1], .int .i64 2]) := by
  obtain ⟨hb, x, no, v, rfl, hx, hc⟩ := h
  refine ⟨hb, ?_⟩
  rcases hc with ⟨rfl, rfl, hc⟩ | ⟨rfl, _, q, hq, rfl, hr⟩
  · obtain ⟨pk, ck, pl, cl, rfl, _⟩ := (hx.rd (by simp [V0, totV, totVs])).open
    exact ⟨_, _, _, _, _, _, _, _, _, _, rfl⟩
  · rcases perm_two hq with rfl | rfl
    · exact absurd hr (by decide)
    · exact absurd hr (by decide)
theorem call_one (W : World) (p1 p2 : Option Addr) (c1 c2 : Nat) (h1 : RdS W p1 c1 [[98], [97, 32, 98]]) (h2 : LRd W p2 c2 LM) :
    Calls Tryz.prog 36 #[.slice p1 2 c1, .slice p2 2 c2] W fun e w' => Below W.heap.size W w' ∧ ∃ x, e = .returned (.tuple #[.agg x, .int .i64 0]) ∧ VRd w' VM x :=
  (map_any (ks := [[98], [97, 32, 98]]) (l := LM) h1 h2 (by simp) (by simp [totV, totVs, LM])).mono fun _ _ h => map_one h
theorem call_two (W : World) (p1 p2 : Option Addr) (c1 c2 : Nat) (h1 : RdS W p1 c1 [[97], [97]]) (h2 : LRd W p2 c2 L0) :
    Calls Tryz.prog 36 #[.slice p1 2 c1, .slice p2 2 c2] W fun e w' => Below W.heap.size W w' ∧ ∃ p0 n0 c0 p1 n1 c1 k b n t, e = .returned (.tuple #[.agg #[.int .i64 k, .bool b, .int .i64 n, .string t, .slice p0 n0 c0, .slice p1 n1 c1], .int .i64 2]) :=
  (map_any (ks := [[97], [97]]) (l := L0) h1 h2 (by simp) (by simp [totV, totVs, L0])).mono fun _ _ h => map_two h
theorem RdS.two {W : World} {g : Nat} {a b : List UInt8} (h : W.heap[g]? = some (.cells #[.string (strB a), .string (strB b)] 9 (0, 0))) (ha : a.length ≤ 1000) (hb : b.length ≤ 1000) : RdS W (some ⟨g, 0, none⟩) 2 [a, b] := by
  refine ⟨Nat.le_refl _, (by simp), (fun e => by cases e), fun s hs => ?_, fun ad had => ?_⟩
  · simp only [List.mem_cons, List.not_mem_nil, or_false] at hs
    rcases hs with rfl | rfl <;> omega
  · cases had
    refine ⟨fun _ => rfl, fun i s hs => ?_⟩
    match i, hs with
    | 0, hs => cases hs; exact cellOf (o := 0) h rfl
    | 1, hs => cases hs; exact cellOf (o := 1) h rfl
    | i + 2, hs => simp at hs
end Go.Proofs.YtnkaegdnjfpliaaGreatDoor
