/- How two values are held against each other: value.compare. -/
import Derived.Test.YtnkaegdnjfpliaaGreatDoorVone
import Derived.Test.YtnkaegdnjfpliaaGreatDoorShelf
namespace Go.Proofs.YtnkaegdnjfpliaaGreatDoor
set_option linter.unusedSimpArgs false
set_option linter.unusedVariables false
open Go.RowKit

theorem strcmp_any (a b : List UInt8) (w : World) : Calls Tryz.prog 82 #[.string (strB a), .string (strB b)] w fun e w' => e = .returned (.int .i64 (cmpB a b)) ∧ w = w' := by
  refine (Tryz.strings_Compare (strB a) (strB b) w).mono ?_
  rintro e w' ⟨rfl, rfl⟩
  exact ⟨ret_int (compareBytes_eq a b), rfl⟩
theorem cmpL_drop {α : Type} (f : α → α → Int) {l m : List α} {k : Nat} (h1 : k < l.length) (h2 : k < m.length) : cmpL f (l.drop k) (m.drop k) = if f l[k] m[k] ≠ 0 then f l[k] m[k] else cmpL f (l.drop (k + 1)) (m.drop (k + 1)) := by
  rw [List.drop_eq_getElem_cons h1, List.drop_eq_getElem_cons h2, cmpL]
theorem cmpL_over {α : Type} (f : α → α → Int) {l m : List α} {k : Nat} (h1 : k < l.length) (h2 : m.length ≤ k) : cmpL f (l.drop k) (m.drop k) = 1 := by
  rw [List.drop_eq_getElem_cons h1, List.drop_eq_nil_of_le h2, cmpL]
theorem cmpL_under {α : Type} (f : α → α → Int) {l m : List α} {k : Nat} (h1 : l.length ≤ k) (h2 : k < m.length) : cmpL f (l.drop k) (m.drop k) = -1 := by
  rw [List.drop_eq_getElem_cons h2, List.drop_eq_nil_of_le h1, cmpL]
theorem cmpL_out {α : Type} (f : α → α → Int) {l m : List α} {k : Nat} (h1 : l.length ≤ k) (h2 : m.length ≤ k) : cmpL f (l.drop k) (m.drop k) = 0 := by
  rw [List.drop_eq_nil_of_le h1, List.drop_eq_nil_of_le h2, cmpL]

set_option maxRecDepth 100000 in
set_option maxHeartbeats 1000000 in
theorem cmpkeys_any {w : World} {p1 p2 : Option Addr} {c1 c2 : Nat} {l1 l2 : List (List UInt8)} (h1 : RdS w p1 c1 l1) (h2 : RdS w p2 c2 l2) :
    Calls Tryz.prog 119 #[.slice p1 l1.length c1, .slice p2 l2.length c2, .func (.func 82) #[] #[]] w fun e w' => e = .returned (.int .i64 (cmpL cmpB l1 l2)) ∧ w = w' := by
  have z1 : (l1.length : Int) ≤ 140737488355328 := by have := h1.1; have := h1.2.1; omega
  have z2 : (l2.length : Int) ≤ 140737488355328 := by have := h2.1; have := h2.2.1; omega
  have H := Lib.hid (And.intro h1 h2)
  clear h1 h2
  go_enter Tryz.func119, Tryz.ntmps119
  go_wp2
  go_loop [13] (fun i => ∃ k : Nat, k ≤ l1.length ∧ k ≤ l2.length ∧ i = .int .i64 (k : Int) ∧ Hid (cmpL cmpB l1 l2 = cmpL cmpB (l1.drop k) (l2.drop k))) (fun i => l1.length - (intOf i).toNat)
  case atStart => exact ⟨0, Nat.zero_le _, Nat.zero_le _, rfl, Lib.hid (by simp)⟩
  case round =>
    obtain ⟨k, hk, hk2, rfl, HK⟩ := hrel
    by_cases hlt : k < l1.length
    · have hlt1 : k + 1 ≤ l1.length := hlt
      obtain ⟨b1, o1, rfl, g1, _⟩ := H.out.1.get hlt
      by_cases hlt2 : k < l2.length
      · have hlt3 : k + 1 ≤ l2.length := hlt2
        obtain ⟨b2, o2, rfl, g2, _⟩ := H.out.2.get hlt2
        have hd := cmpL_drop cmpB hlt hlt2
        generalize l1[k] = s1 at *
        generalize l2[k] = s2 at *
        have HS := Lib.hid (strcmp_any s1 s2 w)
        by_cases e : cmpB s1 s2 = 0
        · have d : (cmpB s1 s2 != 0) = false := by simp [e]
          have HE := Lib.hid (HK.out.trans (by rw [hd, if_neg (by simpa using e)]))
          clear e hd HK
          go_wp2_with (go_at_call 82; refine HS.out.mono ?_; rintro e w' ⟨rfl, rfl⟩)
          go_round
          case rel => exact ⟨k + 1, by omega, by omega, by go_num, HE⟩
          case measure => simp [intOf]; omega
        · have d : (cmpB s1 s2 != 0) = true := by simpa using e
          have HE := Lib.hid (HK.out.trans (by rw [hd, if_pos (by simpa using e)]))
          clear e hd HK
          go_wp2_with (go_at_call 82; refine HS.out.mono ?_; rintro e w' ⟨rfl, rfl⟩)
          go_ret
          exact ⟨ret_int HE.out.symm, rfl⟩
      · have HE := Lib.hid (HK.out.trans (cmpL_over cmpB hlt (by omega)))
        clear HK
        go_wp2
        go_ret
        exact ⟨ret_int HE.out.symm, rfl⟩
    · by_cases hlt2 : k < l2.length
      · have HE := Lib.hid (HK.out.trans (cmpL_under cmpB (by omega) hlt2))
        have hx : l1.length < l2.length := by omega
        clear HK
        go_wp2
        go_ret
        exact ⟨ret_int HE.out.symm, rfl⟩
      · have HE := Lib.hid (HK.out.trans (cmpL_out cmpB (by omega) (by omega)))
        have hx : ¬ l1.length < l2.length := by omega
        clear HK
        go_wp2
        go_ret
        exact ⟨ret_int HE.out.symm, rfl⟩

set_option maxRecDepth 100000 in
set_option maxHeartbeats 2000000 in
theorem cmpvals_any {w : World} {p1 p2 : Option Addr} {c1 c2 : Nat} {l1 l2 : List V} (h1 : LRd w p1 c1 l1) (h2 : LRd w p2 c2 l2) (fn : FuncId) (hf : fn = 63) (f : V → V → Int)
    (hc : ∀ a ∈ l1, ∀ b ∈ l2, ∀ x y W, VRd W a x → VRd W b y → Calls Tryz.prog 63 #[.agg x, .agg y] W fun e w' => e = .returned (.int .i64 (f a b)) ∧ Below W.heap.size W w') :
    Calls Tryz.prog 115 #[.slice p1 l1.length c1, .slice p2 l2.length c2, .func (.func 63) #[] #[]] w fun e w' => e = .returned (.int .i64 (cmpL f l1 l2)) ∧ Below w.heap.size w w' := by
  have z1 : (l1.length : Int) ≤ 140737488355328 := by have := h1.1.1; have := h1.1.2.1; omega
  have z2 : (l2.length : Int) ≤ 140737488355328 := by have := h2.1.1; have := h2.1.2.1; omega
  have H := Lib.hid (And.intro h1 h2)
  have HC := Lib.hid hc
  clear h1 h2 hc hf
  go_enter Tryz.func115, Tryz.ntmps115
  go_wp2
  go_loopw [13] (fun i wr => ∃ k : Nat, k ≤ l1.length ∧ k ≤ l2.length ∧ i = .int .i64 (k : Int) ∧ Hid (cmpL f l1 l2 = cmpL f (l1.drop k) (l2.drop k) ∧ Below w.heap.size w wr)) (fun i _ => l1.length - (intOf i).toNat)
  case atStart => exact ⟨0, Nat.zero_le _, Nat.zero_le _, rfl, Lib.hid ⟨by simp, Below.refl _ _⟩⟩
  case round =>
    obtain ⟨k, hk, hk2, rfl, HK⟩ := hrel
    by_cases hlt : k < l1.length
    · have hlt1 : k + 1 ≤ l1.length := hlt
      obtain ⟨b1, o1, pk1, ck1, pl1, cl1, rfl, ⟨a0, a1, a2, a3, a4, a5⟩, hv1⟩ := (H.out.1.below HK.out.2).at hlt
      by_cases hlt2 : k < l2.length
      · have hlt3 : k + 1 ≤ l2.length := hlt2
        obtain ⟨b2, o2, pk2, ck2, pl2, cl2, rfl, ⟨q0, q1, q2, q3, q4, q5⟩, hv2⟩ := (H.out.2.below HK.out.2).at hlt2
        have hd := cmpL_drop f hlt hlt2
        have hcc := HC.out l1[k] (List.getElem_mem hlt) l2[k] (List.getElem_mem hlt2)
        generalize l1[k] = s1 at *
        generalize l2[k] = s2 at *
        have n0 := belowCell (below_new (w := wr) (.cells #[.int .i64 s1.kind, .bool s1.b, .int .i64 s1.n, .string (strB s1.text), .slice pk1 s1.keys.length ck1, .slice pl1 s1.list.length cl1] 26)) (ltOf q0) q0
        have n1 := belowCell (below_new (w := wr) (.cells #[.int .i64 s1.kind, .bool s1.b, .int .i64 s1.n, .string (strB s1.text), .slice pk1 s1.keys.length ck1, .slice pl1 s1.list.length cl1] 26)) (ltOf q1) q1
        have n2 := belowCell (below_new (w := wr) (.cells #[.int .i64 s1.kind, .bool s1.b, .int .i64 s1.n, .string (strB s1.text), .slice pk1 s1.keys.length ck1, .slice pl1 s1.list.length cl1] 26)) (ltOf q2) q2
        have n3 := belowCell (below_new (w := wr) (.cells #[.int .i64 s1.kind, .bool s1.b, .int .i64 s1.n, .string (strB s1.text), .slice pk1 s1.keys.length ck1, .slice pl1 s1.list.length cl1] 26)) (ltOf q3) q3
        have n4 := belowCell (below_new (w := wr) (.cells #[.int .i64 s1.kind, .bool s1.b, .int .i64 s1.n, .string (strB s1.text), .slice pk1 s1.keys.length ck1, .slice pl1 s1.list.length cl1] 26)) (ltOf q4) q4
        have n5 := belowCell (below_new (w := wr) (.cells #[.int .i64 s1.kind, .bool s1.b, .int .i64 s1.n, .string (strB s1.text), .slice pk1 s1.keys.length ck1, .slice pl1 s1.list.length cl1] 26)) (ltOf q5) q5
        have hbA : Below wr.heap.size wr ((wr.alloc (.cells #[.int .i64 s1.kind, .bool s1.b, .int .i64 s1.n, .string (strB s1.text), .slice pk1 s1.keys.length ck1, .slice pl1 s1.list.length cl1] 26)).alloc (.cells #[.int .i64 s2.kind, .bool s2.b, .int .i64 s2.n, .string (strB s2.text), .slice pk2 s2.keys.length ck2, .slice pl2 s2.list.length cl2] 26)) := (below_new _).alloc (by simp) _
        have HS := Lib.hid (hcc _ _ _ (hv1.below hbA) (hv2.below hbA))
        have HB := Lib.hid (And.intro HK.out.2 hbA)
        by_cases e : f s1 s2 = 0
        · have d : (f s1 s2 != 0) = false := by simp [e]
          have HE := Lib.hid (HK.out.1.trans (by rw [hd, if_neg (by simpa using e)]))
          clear e hd HK hv1 hv2 hcc hbA
          go_wp2_with (go_at_call 63; refine HS.out.mono ?_; rintro e w3 ⟨rfl, hb3⟩; have HB3 := Lib.hid hb3; clear hb3)
          go_roundw
          case rel => exact ⟨k + 1, by omega, by omega, by go_num, Lib.hid ⟨HE.out, HB.out.1.trans ((HB.out.2.trans (HB3.out.mono HB.out.2.size)).mono HB.out.1.size)⟩⟩
          case measure => simp [intOf]; omega
        · have d : (f s1 s2 != 0) = true := by simpa using e
          have HE := Lib.hid (HK.out.1.trans (by rw [hd, if_pos (by simpa using e)]))
          clear e hd HK hv1 hv2 hcc hbA
          go_wp2_with (go_at_call 63; refine HS.out.mono ?_; rintro e w3 ⟨rfl, hb3⟩; have HB3 := Lib.hid hb3; clear hb3)
          go_ret
          exact ⟨ret_int HE.out.symm, HB.out.1.trans ((HB.out.2.trans (HB3.out.mono HB.out.2.size)).mono HB.out.1.size)⟩
      · have HE := Lib.hid (HK.out.1.trans (cmpL_over f hlt (by omega)))
        generalize l1[k] = s1 at *
        have hbA : Below wr.heap.size wr (wr.alloc (.cells #[.int .i64 s1.kind, .bool s1.b, .int .i64 s1.n, .string (strB s1.text), .slice pk1 s1.keys.length ck1, .slice pl1 s1.list.length cl1] 26)) := below_new _
        have HB := Lib.hid (below_trans HK.out.2 hbA)
        clear HK hv1 hbA
        go_wp2
        go_ret
        exact ⟨ret_int HE.out.symm, HB.out⟩
    · by_cases hlt2 : k < l2.length
      · have HE := Lib.hid (HK.out.1.trans (cmpL_under f (by omega) hlt2))
        have HB := Lib.hid HK.out.2
        have hx : l1.length < l2.length := by omega
        clear HK
        go_wp2
        go_ret
        exact ⟨ret_int HE.out.symm, HB.out⟩
      · have HE := Lib.hid (HK.out.1.trans (cmpL_out f (by omega) (by omega)))
        have HB := Lib.hid HK.out.2
        have hx : ¬ l1.length < l2.length := by omega
        clear HK
        go_wp2
        go_ret
        exact ⟨ret_int HE.out.symm, HB.out⟩
end Go.Proofs.YtnkaegdnjfpliaaGreatDoor
