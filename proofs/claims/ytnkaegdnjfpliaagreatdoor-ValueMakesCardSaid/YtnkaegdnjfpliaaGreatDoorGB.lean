/- Texts that the proofs of this layer share. -/
import Derived.Test.YtnkaegdnjfpliaaGreatDoorGA
import Derived.Test.YtnkaegdnjfpliaaGreatDoorGS
import Derived.OwnWalk
import Derived.Lib.Builder
import Derived.Lib.UnsafeStr
import Derived.OrdersIn
/-! How two values are held against each other: value.compare. -/
namespace Go.Proofs.YtnkaegdnjfpliaaGreatDoor
set_option linter.unusedSimpArgs false
set_option linter.unusedVariables false
open Go.RowKit

theorem strcmp_any (a b : List UInt8) (w : World) : Calls Tryz.prog 82 #[.string (strB a), .string (strB b)] w fun e w' => e = .returned (.int .i64 (cmpB a b)) ∧ w = w' := by
  refine (Tryz.strings_Compare (strB a) (strB b) w).mono ?_
  rintro e w' ⟨rfl, rfl⟩
  exact ⟨ret_int (compareBytes_eq a b), rfl⟩
theorem cmpL_drop {α : Type} (f : α → α → Int) {l m : List α} {k : Nat} (h1 : k < l.length) (h2 : k < m.length) : cmpL f (l.drop k) (m.drop k) = if f l[k] m[k] ≠ 0 then f l[k] m[k] else cmpL f (l.drop (k + 1)) (m.drop (k + 1)) := by
  rw [List.drop_eq_getElem_cons h1, List.drop_eq_getElem_cons h2, cmpL]
theorem cmpL_over {α : Type} (f : α → α → Int) {l m : List α} {k : Nat} (h1 : k < l.length) (h2 : m.length ≤ k) : cmpL f (l.drop k) (m.drop k) = 1 := by
  rw [List.drop_eq_getElem_cons h1, List.drop_eq_nil_of_le h2, cmpL]
theorem cmpL_under {α : Type} (f : α → α → Int) {l m : List α} {k : Nat} (h1 : l.length ≤ k) (h2 : k < m.length) : cmpL f (l.drop k) (m.drop k) = -1 := by
  rw [List.drop_eq_getElem_cons h2, List.drop_eq_nil_of_le h1, cmpL]
theorem cmpL_out {α : Type} (f : α → α → Int) {l m : List α} {k : Nat} (h1 : l.length ≤ k) (h2 : m.length ≤ k) : cmpL f (l.drop k) (m.drop k) = 0 := by
  rw [List.drop_eq_nil_of_le h1, List.drop_eq_nil_of_le h2, cmpL]

set_option maxRecDepth 100000 in
set_option maxHeartbeats 1000000 in
theorem cmpkeys_any {w : World} {p1 p2 : Option Addr} {c1 c2 : Nat} {l1 l2 : List (List UInt8)} (h1 : RdS w p1 c1 l1) (h2 : RdS w p2 c2 l2) :
    Calls Tryz.prog 119 #[.slice p1 l1.length c1, .slice p2 l2.length c2, .func (.func 82) #[] #[]] w fun e w' => e = .returned (.int .i64 (cmpL cmpB l1 l2)) ∧ w = w' := by
  have z1 : (l1.length : Int) ≤ 140737488355328 := by have := h1.1; have := h1.2.1; omega
  have z2 : (l2.length : Int) ≤ 140737488355328 := by have := h2.1; have := h2.2.1; omega
  have H := Lib.hid (And.intro h1 h2)
  clear h1 h2
  go_enter Tryz.func119, Tryz.ntmps119
  go_wp2
  go_loop [13] (fun i => ∃ k : Nat, k ≤ l1.length ∧ k ≤ l2.length ∧ i = .int .i64 (k : Int) ∧ Hid (cmpL cmpB l1 l2 = cmpL cmpB (l1.drop k) (l2.drop k))) (fun i => l1.length - (intOf i).toNat)
  case atStart => exact ⟨0, Nat.zero_le _, Nat.zero_le _, rfl, Lib.hid (by simp)⟩
  case round =>
    obtain ⟨k, hk, hk2, rfl, HK⟩ := hrel
    by_cases hlt : k < l1.length
    · have hlt1 : k + 1 ≤ l1.length := hlt
      obtain ⟨b1, o1, rfl, g1, _⟩ := H.out.1.get hlt
      by_cases hlt2 : k < l2.length
      · have hlt3 : k + 1 ≤ l2.length := hlt2
        obtain ⟨b2, o2, rfl, g2, _⟩ := H.out.2.get hlt2
        have hd := cmpL_drop cmpB hlt hlt2
        generalize l1[k] = s1 at *
        generalize l2[k] = s2 at *
        have HS := Lib.hid (strcmp_any s1 s2 w)
        by_cases e : cmpB s1 s2 = 0
        · have d : (cmpB s1 s2 != 0) = false := by simp [e]
          have HE := Lib.hid (HK.out.trans (by rw [hd, if_neg (by simpa using e)]))
          clear e hd HK
          go_wp2_with (go_at_call 82; refine HS.out.mono ?_; rintro e w' ⟨rfl, rfl⟩)
          go_round
          case rel => exact ⟨k + 1, by omega, by omega, by go_num, HE⟩
          case measure => simp [intOf]; omega
        · have d : (cmpB s1 s2 != 0) = true := by simpa using e
          have HE := Lib.hid (HK.out.trans (by rw [hd, if_pos (by simpa using e)]))
          clear e hd HK
          go_wp2_with (go_at_call 82; refine HS.out.mono ?_; rintro e w' ⟨rfl, rfl⟩)
          go_ret
          exact ⟨ret_int HE.out.symm, rfl⟩
      · have HE := Lib.hid (HK.out.trans (cmpL_over cmpB hlt (by omega)))
        clear HK
        go_wp2
        go_ret
        exact ⟨ret_int HE.out.symm, rfl⟩
    · by_cases hlt2 : k < l2.length
      · have HE := Lib.hid (HK.out.trans (cmpL_under cmpB (by omega) hlt2))
        have hx : l1.length < l2.length := by omega
        clear HK
        go_wp2
        go_ret
        exact ⟨ret_int HE.out.symm, rfl⟩
      · have HE := Lib.hid (HK.out.trans (cmpL_out cmpB (by omega) (by omega)))
        have hx : ¬ l1.length < l2.length := by omega
        clear HK
        go_wp2
        go_ret
        exact ⟨ret_int HE.out.symm, rfl⟩

set_option maxRecDepth 100000 in
set_option maxHeartbeats 2000000 in
theorem cmpvals_any {w : World} {p1 p2 : Option Addr} {c1 c2 : Nat} {l1 l2 : List V} (h1 : LRd w p1 c1 l1) (h2 : LRd w p2 c2 l2) (fn : FuncId) (hf : fn = 63) (f : V → V → Int)
    (hc : ∀ a ∈ l1, ∀ b ∈ l2, ∀ x y W, VRd W a x → VRd W b y → Calls Tryz.prog 63 #[.agg x, .agg y] W fun e w' => e = .returned (.int .i64 (f a b)) ∧ Below W.heap.size W w') :
    Calls Tryz.prog 115 #[.slice p1 l1.length c1, .slice p2 l2.length c2, .func (.func 63) #[] #[]] w fun e w' => e = .returned (.int .i64 (cmpL f l1 l2)) ∧ Below w.heap.size w w' := by
  have z1 : (l1.length : Int) ≤ 140737488355328 := by have := h1.1.1; have := h1.1.2.1; omega
  have z2 : (l2.length : Int) ≤ 140737488355328 := by have := h2.1.1; have := h2.1.2.1; omega
  have H := Lib.hid (And.intro h1 h2)
  have HC := Lib.hid hc
  clear h1 h2 hc hf
  go_enter Tryz.func115, Tryz.ntmps115
  go_wp2
  go_loopw [13] (fun i wr => ∃ k : Nat, k ≤ l1.length ∧ k ≤ l2.length ∧ i = .int .i64 (k : Int) ∧ Hid (cmpL f l1 l2 = cmpL f (l1.drop k) (l2.drop k) ∧ Below w.heap.size w wr)) (fun i _ => l1.length - (intOf i).toNat)
  case atStart => exact ⟨0, Nat.zero_le _, Nat.zero_le _, rfl, Lib.hid ⟨by simp, Below.refl _ _⟩⟩
  case round =>
    obtain ⟨k, hk, hk2, rfl, HK⟩ := hrel
    by_cases hlt : k < l1.length
    · have hlt1 : k + 1 ≤ l1.length := hlt
      obtain ⟨b1, o1, pk1, ck1, pl1, cl1, rfl, ⟨a0, a1, a2, a3, a4, a5⟩, hv1⟩ := (H.out.1.below HK.out.2).at hlt
      by_cases hlt2 : k < l2.length
      · have hlt3 : k + 1 ≤ l2.length := hlt2
        obtain ⟨b2, o2, pk2, ck2, pl2, cl2, rfl, ⟨q0, q1, q2, q3, q4, q5⟩, hv2⟩ := (H.out.2.below HK.out.2).at hlt2
        have hd := cmpL_drop f hlt hlt2
        have hcc := HC.out l1[k] (List.getElem_mem hlt) l2[k] (List.getElem_mem hlt2)
        generalize l1[k] = s1 at *
        generalize l2[k] = s2 at *
        have n0 := belowCell (below_new (w := wr) (.cells #[.int .i64 s1.kind, .bool s1.b, .int .i64 s1.n, .string (strB s1.text), .slice pk1 s1.keys.length ck1, .slice pl1 s1.list.length cl1] 26)) (ltOf q0) q0
        have n1 := belowCell (below_new (w := wr) (.cells #[.int .i64 s1.kind, .bool s1.b, .int .i64 s1.n, .string (strB s1.text), .slice pk1 s1.keys.length ck1, .slice pl1 s1.list.length cl1] 26)) (ltOf q1) q1
        have n2 := belowCell (below_new (w := wr) (.cells #[.int .i64 s1.kind, .bool s1.b, .int .i64 s1.n, .string (strB s1.text), .slice pk1 s1.keys.length ck1, .slice pl1 s1.list.length cl1] 26)) (ltOf q2) q2
        have n3 := belowCell (below_new (w := wr) (.cells #[.int .i64 s1.kind, .bool s1.b, .int .i64 s1.n, .string (strB s1.text), .slice pk1 s1.keys.length ck1, .slice pl1 s1.list.length cl1] 26)) (ltOf q3) q3
        have n4 := belowCell (below_new (w := wr) (.cells #[.int .i64 s1.kind, .bool s1.b, .int .i64 s1.n, .string (strB s1.text), .slice pk1 s1.keys.length ck1, .slice pl1 s1.list.length cl1] 26)) (ltOf q4) q4
        have n5 := belowCell (below_new (w := wr) (.cells #[.int .i64 s1.kind, .bool s1.b, .int .i64 s1.n, .string (strB s1.text), .slice pk1 s1.keys.length ck1, .slice pl1 s1.list.length cl1] 26)) (ltOf q5) q5
        have hbA : Below wr.heap.size wr ((wr.alloc (.cells #[.int .i64 s1.kind, .bool s1.b, .int .i64 s1.n, .string (strB s1.text), .slice pk1 s1.keys.length ck1, .slice pl1 s1.list.length cl1] 26)).alloc (.cells #[.int .i64 s2.kind, .bool s2.b, .int .i64 s2.n, .string (strB s2.text), .slice pk2 s2.keys.length ck2, .slice pl2 s2.list.length cl2] 26)) := (below_new _).alloc (by simp) _
        have HS := Lib.hid (hcc _ _ _ (hv1.below hbA) (hv2.below hbA))
        have HB := Lib.hid (And.intro HK.out.2 hbA)
        by_cases e : f s1 s2 = 0
        · have d : (f s1 s2 != 0) = false := by simp [e]
          have HE := Lib.hid (HK.out.1.trans (by rw [hd, if_neg (by simpa using e)]))
          clear e hd HK hv1 hv2 hcc hbA
          go_wp2_with (go_at_call 63; refine HS.out.mono ?_; rintro e w3 ⟨rfl, hb3⟩; have HB3 := Lib.hid hb3; clear hb3)
          go_roundw
          case rel => exact ⟨k + 1, by omega, by omega, by go_num, Lib.hid ⟨HE.out, HB.out.1.trans ((HB.out.2.trans (HB3.out.mono HB.out.2.size)).mono HB.out.1.size)⟩⟩
          case measure => simp [intOf]; omega
        · have d : (f s1 s2 != 0) = true := by simpa using e
          have HE := Lib.hid (HK.out.1.trans (by rw [hd, if_pos (by simpa using e)]))
          clear e hd HK hv1 hv2 hcc hbA
          go_wp2_with (go_at_call 63; refine HS.out.mono ?_; rintro e w3 ⟨rfl, hb3⟩; have HB3 := Lib.hid hb3; clear hb3)
          go_ret
          exact ⟨ret_int HE.out.symm, HB.out.1.trans ((HB.out.2.trans (HB3.out.mono HB.out.2.size)).mono HB.out.1.size)⟩
      · have HE := Lib.hid (HK.out.1.trans (cmpL_over f hlt (by omega)))
        generalize l1[k] = s1 at *
        have hbA : Below wr.heap.size wr (wr.alloc (.cells #[.int .i64 s1.kind, .bool s1.b, .int .i64 s1.n, .string (strB s1.text), .slice pk1 s1.keys.length ck1, .slice pl1 s1.list.length cl1] 26)) := below_new _
        have HB := Lib.hid (below_trans HK.out.2 hbA)
        clear HK hv1 hbA
        go_wp2
        go_ret
        exact ⟨ret_int HE.out.symm, HB.out⟩
    · by_cases hlt2 : k < l2.length
      · have HE := Lib.hid (HK.out.1.trans (cmpL_under f (by omega) hlt2))
        have HB := Lib.hid HK.out.2
        have hx : l1.length < l2.length := by omega
        clear HK
        go_wp2
        go_ret
        exact ⟨ret_int HE.out.symm, HB.out⟩
      · have HE := Lib.hid (HK.out.1.trans (cmpL_out f (by omega) (by omega)))
        have HB := Lib.hid HK.out.2
        have hx : ¬ l1.length < l2.length := by omega
        clear HK
        go_wp2
        go_ret
        exact ⟨ret_int HE.out.symm, HB.out⟩
end Go.Proofs.YtnkaegdnjfpliaaGreatDoor

/-! value.compare. Printed by gen_vcmp2.py. -/
namespace Go.Proofs.YtnkaegdnjfpliaaGreatDoor
set_option linter.unusedSimpArgs false
set_option linter.unusedVariables false
open Go.RowKit

theorem fa_value (y k : Nat) (hk : k < 6) (W : World) : (Instr.fieldAt 26 (.pointer (some ⟨y, 0, none⟩)) k).run Tryz.prog W = .ok (.pointer (some ⟨y, k, none⟩)) W := by
  have : k = 0 ∨ k = 1 ∨ k = 2 ∨ k = 3 ∨ k = 4 ∨ k = 5 := by omega
  rcases this with rfl | rfl | rfl | rfl | rfl | rfl <;> simp [go_sem]
theorem listsS_any {w : World} {p1 p2 : Option Addr} {c1 c2 : Nat} {l1 l2 : List (List UInt8)} (h1 : RdS w p1 c1 l1) (h2 : RdS w p2 c2 l2) :
    Calls Tryz.prog 97 #[.slice p1 l1.length c1, .slice p2 l2.length c2, .func (.func 82) #[] #[]] w fun e w' => e = .returned (.int .i64 (cmpL cmpB l1 l2)) ∧ w = w' := by
  have HC := Lib.hid (cmpkeys_any h1 h2)
  clear h1 h2
  go_enter Tryz.func97, Tryz.ntmps97
  go_wp2_with (go_at_call 119; refine HC.out.mono ?_; rintro e w' ⟨rfl, rfl⟩)
  go_ret
  exact ⟨rfl, rfl⟩
theorem listsV_any {w : World} {p1 p2 : Option Addr} {c1 c2 : Nat} {l1 l2 : List V} (h1 : LRd w p1 c1 l1) (h2 : LRd w p2 c2 l2) (f : V → V → Int)
    (hc : ∀ a ∈ l1, ∀ b ∈ l2, ∀ x y W, VRd W a x → VRd W b y → Calls Tryz.prog 63 #[.agg x, .agg y] W fun e w' => e = .returned (.int .i64 (f a b)) ∧ Below W.heap.size W w') :
    Calls Tryz.prog 87 #[.slice p1 l1.length c1, .slice p2 l2.length c2, .func (.func 63) #[] #[]] w fun e w' => e = .returned (.int .i64 (cmpL f l1 l2)) ∧ Below w.heap.size w w' := by
  have HC := Lib.hid (cmpvals_any h1 h2 _ rfl f hc)
  clear h1 h2 hc
  go_enter Tryz.func87, Tryz.ntmps87
  go_wp2_with (go_at_call 115; refine HC.out.mono ?_; rintro e w2 ⟨rfl, hb⟩; have HB := Lib.hid hb; clear hb)
  go_ret
  exact ⟨rfl, HB.out⟩

theorem exec_buildSlice3 {P : Program} {a : Act} {w w' : World} {o : Oper} {v : Value} {t : TypeId} {n i0 i1 i2 : Nat} {x0 x1 x2 : Operand} {u0 u1 u2 : Value} (ho : o.op = .buildSlice t n #[(i0, x0), (i1, x1), (i2, x2)]) (h0 : a.eval x0 = u0) (h1 : a.eval x1 = u1) (h2 : a.eval x2 = u2)
    (hr : (Instr.buildSlice t n #[(i0, u0), (i1, u1), (i2, u2)]).run P w = .ok v w') : (execOp a.eval o).run P w = .ok (.value v) w' := exec_buildSlice ho (by simp [h0, h1, h2]) hr
/-- Two values lie in boxes. -/
def TwoV (w W : World) (x y : Array Value) : Prop := W.heap[w.heap.size]? = some (.cells x 26 (0, 0)) ∧ W.heap[w.heap.size + 1]? = some (.cells y 26 (0, 0)) ∧ Below w.heap.size w W
theorem TwoV.below {w W W' : World} {x y : Array Value} (h : TwoV w W x y) (g : Below W.heap.size W W') : TwoV w W' x y :=
  ⟨belowBlk g (Array.getElem?_eq_some_iff.1 h.1).1 h.1, belowBlk g (Array.getElem?_eq_some_iff.1 h.2.1).1 h.2.1, below_trans h.2.2 g⟩
theorem TwoV.start (w : World) (x y : Array Value) : TwoV w ((w.alloc (.cells x 26)).alloc (.cells y 26)) x y := by
  refine ⟨?_, ?_, (below_new _).alloc (by simp) _⟩
  · simp only [heap_get_alloc, World.size_alloc]; rw [if_neg (by omega), if_pos trivial]
  · simp only [heap_get_alloc, World.size_alloc]; rw [if_pos trivial]

set_option maxRecDepth 100000 in
set_option maxHeartbeats 4000000 in
theorem compare_any {u : List UInt8 → Bool} : ∀ a : V, mayV u a = true → ∀ b : V, mayV u b = true → ∀ {w : World} {x y : Array Value}, VRd w a x → VRd w b y →
    Calls Tryz.prog 63 #[.agg x, .agg y] w fun e w' => e = .returned (.int .i64 (cmpV a b)) ∧ Below w.heap.size w w' := by
  refine V.ind fun k b n t ks l ih => ?_
  intro ha v hb w x y hx hy
  obtain ⟨ha1, ha2⟩ := mayV_iff.1 ha
  obtain ⟨hb1, hb2⟩ := mayV_iff.1 hb
  have f1 := oneV_iff.1 ha1
  have f2 := oneV_iff.1 hb1
  obtain ⟨pk, ck, pl, cl, rfl, _, hk1, hl1⟩ := hx.open
  obtain ⟨pk', ck', pl', cl', rfl, _, hk2, hl2⟩ := hy.open
  have hrank := @cmpV_rank (.mk k b n t ks l) v
  have hbool := cmpV_bool f1 f2
  have htext := cmpV_text f1 f2
  have hrest := cmpV_rest f1 f2
  have hinj : rankV k = rankV v.kind → k = v.kind := rankV_inj f1.lo f1.hi f2.lo f2.hi
  cases v with
  | mk k' b' n' t' ks' l' =>
  simp only [V.kind, V.b, V.n, V.text, V.keys, V.list] at *
  have hihl : ∀ a ∈ l, ∀ b ∈ l', ∀ x y W, VRd W a x → VRd W b y → Calls Tryz.prog 63 #[.agg x, .agg y] W fun e w' => e = .returned (.int .i64 (cmpV a b)) ∧ Below W.heap.size W w' := fun a ha b hb x y W hx hy => ih a ha (ha2 a ha) b (hb2 b hb) hx hy
  generalize cmpV (.mk k b n t ks l) (.mk k' b' n' t' ks' l') = R at *
  have hT := TwoV.start w #[.int .i64 k, .bool b, .int .i64 n, .string (strB t), .slice pk ks.length ck, .slice pl l.length cl] #[.int .i64 k', .bool b', .int .i64 n', .string (strB t'), .slice pk' ks'.length ck', .slice pl' l'.length cl']
  have H1 := Lib.hid (And.intro hk1 (And.intro hk2 (And.intro hl1 hl2)))
  have H2 := Lib.hid (And.intro hrank (And.intro hbool (And.intro htext (And.intro hrest hinj))))
  have HI := Lib.hid hihl
  have HT := Lib.hid hT
  clear ih ha hb ha1 ha2 hb1 hb2 f1 f2 hx hy hk1 hk2 hl1 hl2 hrank hbool htext hrest hinj hihl hT
  go_enter Tryz.func63, Tryz.ntmps63
  go_wp2
  have hT := HT.out
  generalize (w.alloc _).alloc _ = W0 at *
  have hT0 := hT.below (Below.refl _ _).drew
  refine plain_region_draws (fun W => TwoV w W #[.int .i64 k, .bool b, .int .i64 n, .string (strB t), .slice pk ks.length ck, .slice pl l.length cl] #[.int .i64 k', .bool b', .int .i64 n', .string (strB t'), .slice pk' ks'.length ck', .slice pl' l'.length cl']) (by kernel_rfl) hT0 (fun hU0 => ?_)
  refine take 0 6 (v := .pointer (some ⟨w.heap.size, 0, none⟩)) rfl rfl (by kernel_rfl) (by kernel_rfl) (by kernel_rfl) rfl (fun W hW => exec_fieldAddr rfl rfl (fa_value _ _ (by decide) W)) (by assumption) ?_
  simp only [Act.put, List.setIfInBounds_toArray, List.set_cons_zero, List.set_cons_succ]
  refine take 1 7 (v := .int .i64 k) rfl rfl (by kernel_rfl) (by kernel_rfl) (by kernel_rfl) rfl (fun W hW => exec_load rfl rfl (run_load1 (w := W) Tryz.underlying22 rfl (cellOf hW.1 rfl))) (by assumption) ?_
  simp only [Act.put, List.setIfInBounds_toArray, List.set_cons_zero, List.set_cons_succ]
  refine take 3 9 (v := .pointer (some ⟨w.heap.size + 1, 0, none⟩)) rfl rfl (by kernel_rfl) (by kernel_rfl) (by kernel_rfl) rfl (fun W hW => exec_fieldAddr rfl rfl (fa_value _ _ (by decide) W)) (by assumption) ?_
  simp only [Act.put, List.setIfInBounds_toArray, List.set_cons_zero, List.set_cons_succ]
  refine take 4 10 (v := .int .i64 k') rfl rfl (by kernel_rfl) (by kernel_rfl) (by kernel_rfl) rfl (fun W hW => exec_load rfl rfl (run_load1 (w := W) Tryz.underlying22 rfl (cellOf hW.2.1 rfl))) (by assumption) ?_
  simp only [Act.put, List.setIfInBounds_toArray, List.set_cons_zero, List.set_cons_succ]
  refine onlyCall 2 8 rfl rfl (by kernel_rfl) rfl (exec_call [.int .i64 k] rfl rfl Tryz.func94 (by kernel_rfl) (by kernel_rfl)) ?_
  refine (rank_any _ _).mono ?_
  rintro e w' ⟨rfl, rfl⟩
  refine ⟨_, rfl, .inr hU0, ?_⟩
  simp only [Act.put, List.setIfInBounds_toArray, List.set_cons_zero, List.set_cons_succ]
  refine onlyCall 5 11 rfl rfl (by kernel_rfl) rfl (exec_call [.int .i64 k'] rfl rfl Tryz.func94 (by kernel_rfl) (by kernel_rfl)) ?_
  refine (rank_any _ _).mono ?_
  rintro e w' ⟨rfl, rfl⟩
  refine ⟨_, rfl, .inr hU0, ?_⟩
  simp only [Act.put, List.setIfInBounds_toArray, List.set_cons_zero, List.set_cons_succ]
  refine onlyCall 6 12 rfl rfl (by kernel_rfl) rfl (exec_call [.int .i64 (rankV k), .int .i64 (rankV k')] rfl rfl Tryz.func93 (by kernel_rfl) (by kernel_rfl)) ?_
  refine (cmp_any _ _ _).mono ?_
  rintro e w' ⟨rfl, rfl⟩
  refine ⟨_, rfl, .inr hU0, ?_⟩
  simp only [Act.put, List.setIfInBounds_toArray, List.set_cons_zero, List.set_cons_succ]
  refine take 7 5 (v := .int .i64 (cmpI (rankV k) (rankV k'))) rfl rfl (by kernel_rfl) (by kernel_rfl) (by kernel_rfl) rfl (fun W hW => exec_assign rfl rfl) (by assumption) ?_
  simp only [Act.put, List.setIfInBounds_toArray, List.set_cons_zero, List.set_cons_succ]
  refine done (by kernel_rfl) ?_ _
  clear hU0 hT0
  have c0 := cellOf (o := 0) hT.1 rfl
  have c1 := cellOf (o := 1) hT.1 rfl
  have c3 := cellOf (o := 3) hT.1 rfl
  have q1 := cellOf (o := 1) hT.2.1 rfl
  have q3 := cellOf (o := 3) hT.2.1 rfl
  by_cases hr : cmpI (rankV k) (rankV k') = 0
  · have d : (cmpI (rankV k) (rankV k') != 0) = false := by simp [hr]
    obtain rfl : k = k' := H2.out.2.2.2.2 (cmpI_zero hr)
    have HT := Lib.hid hT
    clear hT hr
    by_cases e1 : k = 1
    · subst e1
      have HR := Lib.hid (H2.out.2.1 rfl rfl)
      go_wp2_with (go_at_call 95; refine (truths_any _ _ _).mono ?_; rintro e w3 ⟨rfl, hb3⟩; have HB := Lib.hid hb3; clear hb3)
      go_ret
      exact ⟨ret_int HR.out.symm, below_trans (below_trans HT.out.2.2 (Below.refl _ _).drew) HB.out⟩
    · by_cases e3 : k = 3
      · subst e3
        have HR := Lib.hid (H2.out.2.2.1 rfl rfl)
        go_wp2_with (go_at_call 82; refine (strcmp_any _ _ _).mono ?_; rintro e w3 ⟨rfl, rfl⟩)
        go_ret
        exact ⟨ret_int HR.out.symm, below_trans HT.out.2.2 (Below.refl _ _).drew⟩
      · have d1 : (k == 1) = false := by simpa using e1
        have d3 : (k == 3) = false := by simpa using e3
        have HR := Lib.hid (H2.out.2.2.2.1 rfl e1 e3)
        clear e1 e3
        go_wp2
        have hT1 := HT.out.below (Below.refl _ _).drew
        have hT2 := hT1.below (Below.refl _ _).drew
        refine plain_region_draws (fun W => TwoV w W #[.int .i64 k, .bool b, .int .i64 n, .string (strB t), .slice pk ks.length ck, .slice pl l.length cl] #[.int .i64 k, .bool b', .int .i64 n', .string (strB t'), .slice pk' ks'.length ck', .slice pl' l'.length cl']) (by kernel_rfl) hT2 (fun hU0 => ?_)
        refine take 0 32 (v := .pointer (some ⟨w.heap.size, 4, none⟩)) rfl rfl (by kernel_rfl) (by kernel_rfl) (by kernel_rfl) rfl (fun W hW => exec_fieldAddr rfl rfl (fa_value _ _ (by decide) W)) (by assumption) ?_
        simp only [Act.put, List.setIfInBounds_toArray, List.set_cons_zero, List.set_cons_succ]
        refine take 1 33 (v := .slice pk ks.length ck) rfl rfl (by kernel_rfl) (by kernel_rfl) (by kernel_rfl) rfl (fun W hW => exec_load rfl rfl (run_load1 (w := W) Tryz.underlying23 rfl (cellOf hW.1 rfl))) (by assumption) ?_
        simp only [Act.put, List.setIfInBounds_toArray, List.set_cons_zero, List.set_cons_succ]
        refine take 2 34 (v := .pointer (some ⟨w.heap.size + 1, 4, none⟩)) rfl rfl (by kernel_rfl) (by kernel_rfl) (by kernel_rfl) rfl (fun W hW => exec_fieldAddr rfl rfl (fa_value _ _ (by decide) W)) (by assumption) ?_
        simp only [Act.put, List.setIfInBounds_toArray, List.set_cons_zero, List.set_cons_succ]
        refine take 3 35 (v := .slice pk' ks'.length ck') rfl rfl (by kernel_rfl) (by kernel_rfl) (by kernel_rfl) rfl (fun W hW => exec_load rfl rfl (run_load1 (w := W) Tryz.underlying23 rfl (cellOf hW.2.1 rfl))) (by assumption) ?_
        simp only [Act.put, List.setIfInBounds_toArray, List.set_cons_zero, List.set_cons_succ]
        refine take 5 37 (v := .pointer (some ⟨w.heap.size, 5, none⟩)) rfl rfl (by kernel_rfl) (by kernel_rfl) (by kernel_rfl) rfl (fun W hW => exec_fieldAddr rfl rfl (fa_value _ _ (by decide) W)) (by assumption) ?_
        simp only [Act.put, List.setIfInBounds_toArray, List.set_cons_zero, List.set_cons_succ]
        refine take 6 38 (v := .slice pl l.length cl) rfl rfl (by kernel_rfl) (by kernel_rfl) (by kernel_rfl) rfl (fun W hW => exec_load rfl rfl (run_load1 (w := W) Tryz.underlying24 rfl (cellOf hW.1 rfl))) (by assumption) ?_
        simp only [Act.put, List.setIfInBounds_toArray, List.set_cons_zero, List.set_cons_succ]
        refine take 7 39 (v := .pointer (some ⟨w.heap.size + 1, 5, none⟩)) rfl rfl (by kernel_rfl) (by kernel_rfl) (by kernel_rfl) rfl (fun W hW => exec_fieldAddr rfl rfl (fa_value _ _ (by decide) W)) (by assumption) ?_
        simp only [Act.put, List.setIfInBounds_toArray, List.set_cons_zero, List.set_cons_succ]
        refine take 8 40 (v := .slice pl' l'.length cl') rfl rfl (by kernel_rfl) (by kernel_rfl) (by kernel_rfl) rfl (fun W hW => exec_load rfl rfl (run_load1 (w := W) Tryz.underlying24 rfl (cellOf hW.2.1 rfl))) (by assumption) ?_
        simp only [Act.put, List.setIfInBounds_toArray, List.set_cons_zero, List.set_cons_succ]
        refine take 10 42 (v := .pointer (some ⟨w.heap.size, 2, none⟩)) rfl rfl (by kernel_rfl) (by kernel_rfl) (by kernel_rfl) rfl (fun W hW => exec_fieldAddr rfl rfl (fa_value _ _ (by decide) W)) (by assumption) ?_
        simp only [Act.put, List.setIfInBounds_toArray, List.set_cons_zero, List.set_cons_succ]
        refine take 11 43 (v := .int .i64 n) rfl rfl (by kernel_rfl) (by kernel_rfl) (by kernel_rfl) rfl (fun W hW => exec_load rfl rfl (run_load1 (w := W) Tryz.underlying2 rfl (cellOf hW.1 rfl))) (by assumption) ?_
        simp only [Act.put, List.setIfInBounds_toArray, List.set_cons_zero, List.set_cons_succ]
        refine take 12 44 (v := .pointer (some ⟨w.heap.size + 1, 2, none⟩)) rfl rfl (by kernel_rfl) (by kernel_rfl) (by kernel_rfl) rfl (fun W hW => exec_fieldAddr rfl rfl (fa_value _ _ (by decide) W)) (by assumption) ?_
        simp only [Act.put, List.setIfInBounds_toArray, List.set_cons_zero, List.set_cons_succ]
        refine take 13 45 (v := .int .i64 n') rfl rfl (by kernel_rfl) (by kernel_rfl) (by kernel_rfl) rfl (fun W hW => exec_load rfl rfl (run_load1 (w := W) Tryz.underlying2 rfl (cellOf hW.2.1 rfl))) (by assumption) ?_
        simp only [Act.put, List.setIfInBounds_toArray, List.set_cons_zero, List.set_cons_succ]
        refine onlyCall 4 36 rfl rfl (by kernel_rfl) rfl (exec_call [.slice pk ks.length ck, .slice pk' ks'.length ck', .func (.func 82) #[] #[]] rfl rfl Tryz.func97 (by kernel_rfl) (by kernel_rfl)) ?_
        refine (listsS_any ((H1.out.1.below HT.out.2.2).below (Below.refl _ _).drew |>.below (Below.refl _ _).drew) ((H1.out.2.1.below HT.out.2.2).below (Below.refl _ _).drew |>.below (Below.refl _ _).drew)).mono ?_
        rintro e w' ⟨rfl, rfl⟩
        refine ⟨_, rfl, .inr hU0, ?_⟩
        simp only [Act.put, List.setIfInBounds_toArray, List.set_cons_zero, List.set_cons_succ]
        refine onlyCall 9 41 rfl rfl (by kernel_rfl) rfl (exec_call [.slice pl l.length cl, .slice pl' l'.length cl', .func (.func 63) #[] #[]] rfl rfl Tryz.func87 (by kernel_rfl) (by kernel_rfl)) ?_
        refine (listsV_any ((H1.out.2.2.1.below HT.out.2.2).below (Below.refl _ _).drew |>.below (Below.refl _ _).drew) ((H1.out.2.2.2.below HT.out.2.2).below (Below.refl _ _).drew |>.below (Below.refl _ _).drew) cmpV HI.out).mono ?_
        rintro e w4 ⟨rfl, hb4⟩
        have hU1 := hU0.below hb4
        refine ⟨_, rfl, .inr hU1, ?_⟩
        simp only [Act.put, List.setIfInBounds_toArray, List.set_cons_zero, List.set_cons_succ]
        refine onlyCall 14 46 rfl rfl (by kernel_rfl) rfl (exec_call [.int .i64 n, .int .i64 n'] rfl rfl Tryz.func98 (by kernel_rfl) (by kernel_rfl)) ?_
        refine (cmp64_any _ _ _).mono ?_
        rintro e w' ⟨rfl, rfl⟩
        refine ⟨_, rfl, .inr hU1, ?_⟩
        simp only [Act.put, List.setIfInBounds_toArray, List.set_cons_zero, List.set_cons_succ]
        have hU2 : TwoV w (w4.alloc (.cells #[.int .i64 (cmpL cmpB ks ks'), .int .i64 (cmpL cmpV l l'), .int .i64 (cmpI n n')] 3)) #[.int .i64 k, .bool b, .int .i64 n, .string (strB t), .slice pk ks.length ck, .slice pl l.length cl] #[.int .i64 k, .bool b', .int .i64 n', .string (strB t'), .slice pk' ks'.length ck', .slice pl' l'.length cl'] := hU1.below (below_new _)
        have hbs : (Instr.buildSlice 89 3 #[(0, .int .i64 (cmpL cmpB ks ks')), (1, .int .i64 (cmpL cmpV l l')), (2, .int .i64 (cmpI n n'))]).run Tryz.prog w4 = .ok (.slice (some ⟨w4.heap.size, 0, none⟩) 3 3) (w4.alloc (.cells #[.int .i64 (cmpL cmpB ks ks'), .int .i64 (cmpL cmpV l l'), .int .i64 (cmpI n n')] 3)) := by simp [go_sem]
        refine onlyRun 15 47 (v := .slice (some ⟨w4.heap.size, 0, none⟩) 3 3) rfl rfl (by kernel_rfl) rfl (exec_buildSlice3 rfl rfl rfl rfl hbs) (.inr hU2) ?_
        simp only [Act.put, List.setIfInBounds_toArray, List.set_cons_zero, List.set_cons_succ]
        refine onlyCall 16 48 rfl rfl (by kernel_rfl) rfl (exec_call [.slice (some ⟨w4.heap.size, 0, none⟩) 3 3] rfl rfl Tryz.func96 (by kernel_rfl) (by kernel_rfl)) ?_
        refine (or_any (cmpL cmpB ks ks') (cmpL cmpV l l') (cmpI n n') _ w4.heap.size (cellOf (heap_alloc_new _ _) rfl) (cellOf (heap_alloc_new _ _) rfl) (cellOf (heap_alloc_new _ _) rfl)).mono ?_
        rintro e w' ⟨rfl, rfl⟩
        have hU3 := hU2
        refine ⟨_, rfl, .inr hU2, ?_⟩
        simp only [Act.put, List.setIfInBounds_toArray, List.set_cons_zero, List.set_cons_succ]
        refine take 17 4 (v := .int .i64 (orI (cmpL cmpB ks ks') (orI (cmpL cmpV l l') (cmpI n n')))) rfl rfl (by kernel_rfl) (by kernel_rfl) (by kernel_rfl) rfl (fun W hW => exec_assign rfl rfl) (by assumption) ?_
        simp only [Act.put, List.setIfInBounds_toArray, List.set_cons_zero, List.set_cons_succ]
        refine done (by kernel_rfl) ?_ _
        have HF := Lib.hid hU3.2.2
        clear hU0 hU1 hU2 hU3 hT1 hT2 hbs
        generalize World.alloc _ _ = W9 at *
        go_wp2
        go_ret
        exact ⟨ret_int HR.out.symm, HF.out⟩
  · have d : (cmpI (rankV k) (rankV k') != 0) = true := by simpa using hr
    have HR := Lib.hid (H2.out.1 hr)
    have HT := Lib.hid hT
    clear hT hr
    go_wp2
    go_ret
    exact ⟨ret_int HR.out.symm, below_trans HT.out.2.2 (Below.refl _ _).drew⟩
end Go.Proofs.YtnkaegdnjfpliaaGreatDoor

/-! Values of no parts: Null, Bool, Int, String. Keys held against keys. -/
namespace Go.Proofs.YtnkaegdnjfpliaaGreatDoor
set_option linter.unusedSimpArgs false
set_option linter.unusedVariables false
open Go.RowKit

/-- A value without keys and list, as it lies. -/
def flatX (k : Int) (b : Bool) (n : Int) (t : List UInt8) : Array Value := #[.int .i64 k, .bool b, .int .i64 n, .string (strB t), .slice none 0 0, .slice none 0 0]
theorem flatX_rd (w : World) (k : Int) (b : Bool) (n : Int) (t : List UInt8) (ht : t.length ≤ 140737488355328) : VRd w (.mk k b n t [] []) (flatX k b n t) :=
  VRd_iff.2 ⟨none, 0, none, 0, rfl, ht, ⟨Nat.le_refl _, by simp, fun _ => rfl, fun s hs => by simp at hs, fun ad h => by cases h⟩, ⟨Nat.le_refl _, by simp, fun _ => rfl⟩, fun ad h => by cases h⟩
set_option maxRecDepth 100000 in
theorem null_any (w : World) : Calls Tryz.prog 41 #[] w fun e w' => e = .returned (.agg (flatX 0 false 0 [])) ∧ Below w.heap.size w w' := by
  have HB := Lib.hid (below_new (w := w) (.cells #[.int .i64 0, .bool false, .int .i64 0, .string ⟨#[]⟩, .slice none 0 0, .slice none 0 0] 26))
  go_enter Tryz.func41, Tryz.ntmps41
  go_wp2
  refine bodyPost_ret (v := .agg (flatX 0 false 0 [])) (by simp [results, Tryz.results41, go_sem, flatX, strB]) rfl ⟨rfl, HB.out⟩
set_option maxRecDepth 100000 in
theorem bool_any (b : Bool) (w : World) : Calls Tryz.prog 42 #[.bool b] w fun e w' => e = .returned (.agg (flatX 1 b 0 [])) ∧ Below w.heap.size w w' := by
  have HB := Lib.hid (below_new (w := w) (.cells #[.int .i64 1, .bool b, .int .i64 0, .string ⟨#[]⟩, .slice none 0 0, .slice none 0 0] 26))
  go_enter Tryz.func42, Tryz.ntmps42
  go_wp2
  refine bodyPost_ret (v := .agg (flatX 1 b 0 [])) (by simp [results, Tryz.results42, go_sem, flatX, strB]) rfl ⟨rfl, HB.out⟩
set_option maxRecDepth 100000 in
theorem int_any (n : Int) (w : World) : Calls Tryz.prog 43 #[.int .i64 n] w fun e w' => e = .returned (.agg (flatX 2 false n [])) ∧ Below w.heap.size w w' := by
  have HB := Lib.hid (below_new (w := w) (.cells #[.int .i64 2, .bool false, .int .i64 n, .string ⟨#[]⟩, .slice none 0 0, .slice none 0 0] 26))
  go_enter Tryz.func43, Tryz.ntmps43
  go_wp2
  refine bodyPost_ret (v := .agg (flatX 2 false n [])) (by simp [results, Tryz.results43, go_sem, flatX, strB]) rfl ⟨rfl, HB.out⟩
set_option maxRecDepth 100000 in
theorem string_any (t : List UInt8) (w : World) : Calls Tryz.prog 44 #[.string (strB t)] w fun e w' => e = .returned (.agg (flatX 3 false 0 t)) ∧ Below w.heap.size w w' := by
  have HB := Lib.hid (below_new (w := w) (.cells #[.int .i64 3, .bool false, .int .i64 0, .string (strB t), .slice none 0 0, .slice none 0 0] 26))
  go_enter Tryz.func44, Tryz.ntmps44
  go_wp2
  refine bodyPost_ret (v := .agg (flatX 3 false 0 t)) (by simp [results, Tryz.results44, go_sem, flatX, strB]) rfl ⟨rfl, HB.out⟩
theorem strB_map_inj {l m : List (List UInt8)} : l.map strB = m.map strB ↔ l = m := by
  constructor
  · intro h
    induction l generalizing m with
    | nil => cases m with
      | nil => rfl
      | cons => simp at h
    | cons a l ih => cases m with
      | nil => simp at h
      | cons b m =>
        simp only [List.map_cons, List.cons.injEq] at h
        rw [strB_inj.1 h.1, ih h.2]
  · rintro rfl; rfl
/-- Keys held against keys. -/
theorem eqkeys_any {w : World} {p1 p2 : Option Addr} {c1 c2 : Nat} {l1 l2 : List (List UInt8)} (h1 : RdS w p1 c1 l1) (h2 : RdS w p2 c2 l2) :
    Calls Tryz.prog 99 #[.slice p1 l1.length c1, .slice p2 l2.length c2] w fun e w' => e = .returned (.bool (decide (l1 = l2))) ∧ Below w.heap.size w w' := by
  by_cases hl : l1.length = l2.length
  · cases l1 with
    | nil =>
      obtain rfl : l2 = [] := List.eq_nil_of_length_eq_zero (by simpa using hl.symm)
      refine (Tryz.slices_Equal_string_empty p1 p2 c1 0 c2 w (by omega)).mono ?_
      rintro e w' ⟨rfl, hw⟩
      subst hw
      exact ⟨by simp, Below.refl _ _⟩
    | cons a r =>
      cases l2 with
      | nil => simp at hl
      | cons a' r' =>
        obtain ⟨b1, o1, rfl, _⟩ := h1.get (i := 0) (by simp)
        obtain ⟨b2, o2, rfl, _⟩ := h2.get (i := 0) (by simp)
        have cells : ∀ {b o c : Nat} {l : List (List UInt8)}, RdS w (some ⟨b, o, none⟩) c l → ∀ j, j < (l.map strB).length → w.cell? ⟨b, o + j, none⟩ = some (.string ((l.map strB).getD j ByteArray.empty)) := by
          intro b o c l h j hj
          have hj' : j < l.length := by simpa using hj
          have hc := (h.2.2.2.2 _ rfl).2 j l[j] (List.getElem?_eq_getElem hj')
          rw [hc]
          simp [List.getD, hj']
        have h := Tryz.slices_Equal_string b1 o1 (a :: r).length c1 b2 o2 (a' :: r').length c2 ((a :: r).map strB) ((a' :: r').map strB) w (by simp) (by simp) (by have := h1.1; have := h1.2.1; omega) (by have := h2.1; have := h2.2.1; omega) (cells h1) (cells h2)
        refine h.mono ?_
        rintro e w' ⟨rfl, q, rfl⟩
        refine ⟨ret_bool ?_, below_drewN _ q⟩
        rw [List.take_of_length_le (by simp), List.take_of_length_le (by simp), Bool.eq_iff_iff, decide_eq_true_iff, decide_eq_true_iff, strB_map_inj]
  · refine (Tryz.slices_Equal_string_lens p1 p2 l1.length c1 l2.length c2 w hl).mono ?_
    rintro e w' ⟨rfl, hw⟩
    subst hw
    exact ⟨ret_bool (by symm; rw [decide_eq_false_iff_not]; exact fun e => hl (by rw [e])), Below.refl _ _⟩
end Go.Proofs.YtnkaegdnjfpliaaGreatDoor

/-! value.equal. Printed by gen_veq.py. -/
namespace Go.Proofs.YtnkaegdnjfpliaaGreatDoor
set_option linter.unusedSimpArgs false
set_option linter.unusedVariables false
open Go.RowKit

/-- A value, whole, out of its box; out of a row. -/
theorem get_val {W : World} {g : Nat} {c0 c1 c2 c3 c4 c5 : Value} {fr : Nat × Nat} (h : W.heap[g]? = some (.cells #[c0, c1, c2, c3, c4, c5] 26 fr)) : (loadVar 26 ⟨g, 0, none⟩).run Tryz.prog W = .ok (.agg #[c0, c1, c2, c3, c4, c5]) W :=
  run_loadVar_row W g 26 26 _ fr _ h Tryz.underlying26 rfl (by kernel_rfl)
theorem get_six {W : World} {g o : Nat} {c0 c1 c2 c3 c4 c5 : Value} (h0 : W.cell? ⟨g, o, none⟩ = some c0) (h1 : W.cell? ⟨g, o + 1, none⟩ = some c1) (h2 : W.cell? ⟨g, o + 2, none⟩ = some c2) (h3 : W.cell? ⟨g, o + 3, none⟩ = some c3) (h4 : W.cell? ⟨g, o + 4, none⟩ = some c4) (h5 : W.cell? ⟨g, o + 5, none⟩ = some c5) :
    (loadVar 26 ⟨g, o, none⟩).run Tryz.prog W = .ok (.agg #[c0, c1, c2, c3, c4, c5]) W := by
  have hl := run_loadCells_list (P := Tryz.prog) W ⟨g, o, none⟩ [c0, c1, c2, c3, c4, c5] (fun j v hv => by
    rw [addr_add]
    match j, hv with
    | 0, hv => cases hv; exact h0
    | 1, hv => cases hv; exact h1
    | 2, hv => cases hv; exact h2
    | 3, hv => cases hv; exact h3
    | 4, hv => cases hv; exact h4
    | 5, hv => cases hv; exact h5
    | j + 6, hv => simp at hv)
  unfold loadVar
  simp only [Sem.run_bind, Tryz.isAgg26, Tryz.sizeOf26, Result.andThen_ok, if_true]
  rw [show ([c0, c1, c2, c3, c4, c5] : List Value).length = 6 from rfl] at hl
  simp only [hl, Result.andThen_ok, Sem.run_pure]
theorem ia_vals (g o k n c : Nat) (h : k < n) (W : World) : (Instr.indexAt 24 (.slice (some ⟨g, o, none⟩) n c) (.int .i64 (k : Int))).run Tryz.prog W = .ok (.pointer (some ⟨g, o + k * 6, none⟩)) W := by
  have h1 : 0 ≤ (k : Int) := by omega
  simp [go_sem, h, addr_add]
theorem ia_keys (g o k n c : Nat) (h : k < n) (W : World) : (Instr.indexAt 23 (.slice (some ⟨g, o, none⟩) n c) (.int .i64 (k : Int))).run Tryz.prog W = .ok (.pointer (some ⟨g, o + k, none⟩)) W := by
  have h1 : 0 ≤ (k : Int) := by omega
  simp [go_sem, h, addr_add]

set_option maxRecDepth 100000 in
set_option maxHeartbeats 4000000 in
theorem equal_any {u : List UInt8 → Bool} : ∀ a : V, mayV u a = true → ∀ b : V, mayV u b = true → ∀ {w : World} {x y : Array Value}, VRd w a x → VRd w b y →
    Calls Tryz.prog 65 #[.agg x, .agg y] w fun e w' => e = .returned (.int .i64 (eqV a b)) ∧ Below w.heap.size w w' := by
  refine V.ind fun k b n t ks l ih => ?_
  intro ha v hb w x y hx hy
  obtain ⟨ha1, ha2⟩ := mayV_iff.1 ha
  obtain ⟨hb1, hb2⟩ := mayV_iff.1 hb
  have hcmp : ∀ {W : World} {x y : Array Value}, VRd W (.mk k b n t ks l) x → VRd W v y → Calls Tryz.prog 63 #[.agg x, .agg y] W fun e w' => e = .returned (.int .i64 (cmpV (.mk k b n t ks l) v)) ∧ Below W.heap.size W w' := fun h1 h2 => compare_any _ ha _ hb h1 h2
  have hm := eqV_mk k b n t ks l v
  obtain ⟨pk, ck, pl, cl, rfl, _, hk1, hl1⟩ := hx.open
  obtain ⟨pk', ck', pl', cl', rfl, _, hk2, hl2⟩ := hy.open
  cases v with
  | mk k' b' n' t' ks' l' =>
  simp only [V.kind, V.b, V.n, V.text, V.keys, V.list] at *
  have hT := TwoV.start w #[.int .i64 k, .bool b, .int .i64 n, .string (strB t), .slice pk ks.length ck, .slice pl l.length cl] #[.int .i64 k', .bool b', .int .i64 n', .string (strB t'), .slice pk' ks'.length ck', .slice pl' l'.length cl']
  have hC := hcmp (hx.below hT.2.2) (hy.below hT.2.2)
  have hE := eqkeys_any (hk1.below hT.2.2) (hk2.below hT.2.2)
  have hb0 := hT.2.2
  generalize eqV (.mk k b n t ks l) (.mk k' b' n' t' ks' l') = R at *
  generalize cmpV (.mk k b n t ks l) (.mk k' b' n' t' ks' l') = C at *
  have HI := Lib.hid (fun (a : V) (ha : a ∈ l) (b : V) (hb : b ∈ l') (W : World) (x y : Array Value) (h1 : VRd W a x) (h2 : VRd W b y) => ih a ha (ha2 a ha) b (hb2 b hb) h1 h2)
  have HL := Lib.hid (And.intro hl1 hl2)
  have HM := Lib.hid hm
  have HC := Lib.hid hC
  have HE := Lib.hid hE
  have HB := Lib.hid hb0
  have HT := Lib.hid hT
  have z1 : (l.length : Int) ≤ 140737488355328 := by have := hl1.1.1; have := hl1.1.2.1; omega
  have z2 : (l'.length : Int) ≤ 140737488355328 := by have := hl2.1.1; have := hl2.1.2.1; omega
  clear ih ha hb ha1 ha2 hb1 hb2 hx hy hk1 hk2 hl1 hl2 hm hT hcmp hC hE hb0
  by_cases e0 : k = 0
  · subst e0
    have HR := Lib.hid (HM.out.trans (if_pos (.inl rfl)))
    go_enter Tryz.func65, Tryz.ntmps65
    go_wp2
    go_ret
    exact ⟨ret_int HR.out.symm, HB.out⟩
  have d0 : (k == 0) = false := by simpa using e0
  by_cases e0' : k' = 0
  · subst e0'
    have HR := Lib.hid (HM.out.trans (if_pos (.inr rfl)))
    clear e0
    go_enter Tryz.func65, Tryz.ntmps65
    go_wp2
    go_ret
    exact ⟨ret_int HR.out.symm, HB.out⟩
  have d0' : (k' == 0) = false := by simpa using e0'
  have HM2 := Lib.hid (HM.out.trans (if_neg (by omega)))
  clear HM
  by_cases ekk : k = k'
  case neg =>
    have d1 : (k != k') = true := by simpa using ekk
    have HR := Lib.hid (HM2.out.trans (if_pos ekk))
    clear e0 e0' ekk
    go_enter Tryz.func65, Tryz.ntmps65
    go_wp2
    go_ret
    exact ⟨ret_int HR.out.symm, HB.out⟩
  subst ekk
  have HM3 := Lib.hid (HM2.out.trans (if_neg (fun h => h rfl)))
  clear HM2
  by_cases e45 : k ≠ 4 ∧ k ≠ 5
  · obtain ⟨e4, e5⟩ := e45
    have d4 : (k != 4) = true := by simpa using e4
    have d5 : (k != 5) = true := by simpa using e5
    have HR := Lib.hid (HM3.out.trans (if_pos ⟨e4, e5⟩))
    by_cases eC : C = 0
    · subst eC
      have HR2 := Lib.hid (HR.out.trans (if_pos rfl))
      clear e0 e0' e4 e5
      go_enter Tryz.func65, Tryz.ntmps65
      go_wp2_with (first
        | (go_at_call 63; refine HC.out.mono ?_; rintro e w3 ⟨rfl, hb3⟩; have HB3 := Lib.hid hb3; clear hb3)
        | (go_at_call 66; refine (truth_any _ _).mono ?_; rintro e w' ⟨rfl, rfl⟩))
      go_ret
      exact ⟨ret_int HR2.out.symm, below_trans HB.out HB3.out⟩
    · have dC : (C == 0) = false := by simpa using eC
      have HR2 := Lib.hid (HR.out.trans (if_neg eC))
      clear e0 e0' e4 e5 eC
      go_enter Tryz.func65, Tryz.ntmps65
      go_wp2_with (first
        | (go_at_call 63; refine HC.out.mono ?_; rintro e w3 ⟨rfl, hb3⟩; have HB3 := Lib.hid hb3; clear hb3)
        | (go_at_call 66; refine (truth_any _ _).mono ?_; rintro e w' ⟨rfl, rfl⟩))
      go_ret
      exact ⟨ret_int HR2.out.symm, below_trans HB.out HB3.out⟩
  have HM4 := Lib.hid (HM3.out.trans (if_neg e45))
  clear HM3
  have e45' : k = 4 ∨ k = 5 := by omega
  by_cases ell : l.length = l'.length
  case neg =>
    have HR := Lib.hid (HM4.out.trans (if_pos (.inl ell)))
    have dl : decide (l.length = l'.length) = false := by simpa using ell
    have dl2 : ((l.length : Int) != (l'.length : Int)) = true := by rw [bne_iff_ne]; omega
    clear e0 e0' e45 ell d0 d0'
    rcases e45' with rfl | rfl
    all_goals
      go_enter Tryz.func65, Tryz.ntmps65
      go_wp2
      go_ret
      exact ⟨ret_int HR.out.symm, HB.out⟩
  have dl : decide (l.length = l'.length) = true := by simpa using ell
  have dl2 : ((l.length : Int) != (l'.length : Int)) = false := by rw [bne_eq_false_iff_eq]; omega
  by_cases eks : ks = ks'
  case neg =>
    have HR := Lib.hid (HM4.out.trans (if_pos (.inr eks)))
    have dk : decide (ks = ks') = false := by simpa using eks
    rw [dk] at HE
    clear e0 e0' e45 ell d0 d0' eks dk
    rcases e45' with rfl | rfl
    all_goals
      go_enter Tryz.func65, Tryz.ntmps65
      go_wp2_with (go_at_call 99; refine HE.out.mono ?_; rintro e w3 ⟨rfl, hb3⟩; have HB3 := Lib.hid hb3; clear hb3)
      go_ret
      exact ⟨ret_int HR.out.symm, below_trans HB.out HB3.out⟩
  have dk : decide (ks = ks') = true := by simpa using eks
  rw [dk] at HE
  have HR := Lib.hid (HM4.out.trans (if_neg (by rintro (h | h); exact h ell; exact h eks)))
  have Hell := Lib.hid ell
  clear e0 e0' e45 ell d0 d0' eks dk HM4
  rcases e45' with rfl | rfl
  · go_enter Tryz.func65, Tryz.ntmps65
    go_wp2_with (go_at_call 99; refine HE.out.mono ?_; rintro e w3 ⟨rfl, hb3⟩; have HT3 := Lib.hid (HT.out.below hb3); have p5 := cellOf (o := 5) HT3.out.1 rfl; clear hb3)
    go_loopw [5, 56] (fun o i wr => ∃ (j : Nat) (ov : Int), j ≤ l.length ∧ i = .int .i64 (j : Int) ∧ o = .int .i64 ov ∧ Hid ((ov = 1 ∨ ov = 2) ∧ R = combE ov (eqVs (l.drop j) (l'.drop j)) ∧ TwoV w wr #[.int .i64 4, .bool b, .int .i64 n, .string (strB t), .slice pk ks.length ck, .slice pl l.length cl] #[.int .i64 4, .bool b', .int .i64 n', .string (strB t'), .slice pk' ks'.length ck', .slice pl' l'.length cl'])) (fun _ i _ => l.length - (intOf i).toNat)
    case atStart => exact ⟨0, 2, Nat.zero_le _, rfl, rfl, Lib.hid ⟨.inr rfl, by rw [HR.out, combE_two _ (eqVs_range _ _)]; simp, HT3.out⟩⟩
    case round =>
      obtain ⟨j, ov, hj, rfl, rfl, HJ⟩ := hrel
      by_cases hlt : j < l.length
      · have hlt1 : j + 1 ≤ l.length := hlt
        have hlt2 : j < l'.length := by have := Hell.out; omega
        obtain ⟨hov, hR, hT⟩ := HJ.out
        obtain ⟨g1, o1, pk1, ck1, pl1, cl1, rfl, ⟨a0, a1, a2, a3, a4, a5⟩, hv1⟩ := (HL.out.1.below hT.2.2).at hlt
        obtain ⟨g2, o2, pk2, ck2, pl2, cl2, rfl, ⟨q0, q1, q2, q3, q4, q5⟩, hv2⟩ := (HL.out.2.below hT.2.2).at hlt2
        have hz := @combE_zero ov l[j] l'[j] (l.drop (j + 1)) (l'.drop (j + 1))
        have hone := @combE_one ov l[j] l'[j] (l.drop (j + 1)) (l'.drop (j + 1))
        have htwo := @combE_some ov l[j] l'[j] (l.drop (j + 1)) (l'.drop (j + 1))
        rw [← List.drop_eq_getElem_cons hlt, ← List.drop_eq_getElem_cons hlt2] at hz hone htwo
        have hrange := eqV_range l[j] l'[j]
        have hcall := HI.out l[j] (List.getElem_mem hlt) l'[j] (List.getElem_mem hlt2)
        generalize l[j] = s1 at *
        generalize l'[j] = s2 at *
        generalize eqV s1 s2 = E at *
        have HD := Lib.hid (And.intro hov (And.intro hR (And.intro hT (And.intro hz (And.intro hone (And.intro htwo (And.intro hcall (And.intro hv1 (And.intro hv2 (And.intro q0 (And.intro q1 (And.intro q2 (And.intro q3 (And.intro q4 (And.intro q5 hlt2)))))))))))))))
        clear hov hR hT hz hone htwo hcall hv1 hv2 q0 q1 q2 q3 q4 q5 hlt2 HJ
        go_wp2
        obtain ⟨hov, hR, hT, hz, hone, htwo, hcall, hv1, hv2, q0, q1, q2, q3, q4, q5, hlt2⟩ := HD.out
        have hbA := below_new (w := wr) (.cells #[.int .i64 s1.kind, .bool s1.b, .int .i64 s1.n, .string (strB s1.text), .slice pk1 s1.keys.length ck1, .slice pl1 s1.list.length cl1] 26)
        have hbox := heap_alloc_new wr (.cells #[.int .i64 s1.kind, .bool s1.b, .int .i64 s1.n, .string (strB s1.text), .slice pk1 s1.keys.length ck1, .slice pl1 s1.list.length cl1] 26)
        generalize hWA : wr.alloc (.cells #[.int .i64 s1.kind, .bool s1.b, .int .i64 s1.n, .string (strB s1.text), .slice pk1 s1.keys.length ck1, .slice pl1 s1.list.length cl1] 26) = WA at *
        have hb0 : Below WA.heap.size WA WA.drew := (Below.refl _ _).drew
        have hTA := hT.below hbA
        have r0 := belowCell hbA (ltOf q0) q0
        have r1 := belowCell hbA (ltOf q1) q1
        have r2 := belowCell hbA (ltOf q2) q2
        have r3 := belowCell hbA (ltOf q3) q3
        have r4 := belowCell hbA (ltOf q4) q4
        have r5 := belowCell hbA (ltOf q5) q5
        refine plain_region_draws (fun W => Below WA.heap.size WA W) (by kernel_rfl) hb0 (fun hU0 => ?_)
        refine take 0 61 (v := .agg #[.int .i64 s1.kind, .bool s1.b, .int .i64 s1.n, .string (strB s1.text), .slice pk1 s1.keys.length ck1, .slice pl1 s1.list.length cl1]) rfl rfl (by kernel_rfl) (by kernel_rfl) (by kernel_rfl) rfl (fun W hW => exec_load rfl rfl (get_val (belowBlk hW (Array.getElem?_eq_some_iff.1 hbox).1 hbox))) (by assumption) ?_
        simp only [Act.put, List.setIfInBounds_toArray, List.set_cons_zero, List.set_cons_succ]
        refine take 1 62 (v := .pointer (some ⟨w.heap.size + 1, 5, none⟩)) rfl rfl (by kernel_rfl) (by kernel_rfl) (by kernel_rfl) rfl (fun W hW => exec_fieldAddr rfl rfl (fa_value _ _ (by decide) W)) (by assumption) ?_
        simp only [Act.put, List.setIfInBounds_toArray, List.set_cons_zero, List.set_cons_succ]
        refine take 2 63 (v := .slice (some ⟨g2, o2, none⟩) l'.length cl') rfl rfl (by kernel_rfl) (by kernel_rfl) (by kernel_rfl) rfl (fun W hW => exec_load rfl rfl (run_load1 (w := W) Tryz.underlying24 rfl (cellOf (hTA.below hW).2.1 rfl))) (by assumption) ?_
        simp only [Act.put, List.setIfInBounds_toArray, List.set_cons_zero, List.set_cons_succ]
        refine take 3 64 (v := .int .i64 (j : Int)) rfl rfl (by kernel_rfl) (by kernel_rfl) (by kernel_rfl) rfl (fun W hW => exec_move rfl rfl) (by assumption) ?_
        simp only [Act.put, List.setIfInBounds_toArray, List.set_cons_zero, List.set_cons_succ]
        refine take 4 65 (v := .pointer (some ⟨g2, o2 + j * 6, none⟩)) rfl rfl (by kernel_rfl) (by kernel_rfl) (by kernel_rfl) rfl (fun W hW => exec_indexAddr rfl rfl rfl (ia_vals _ _ _ _ _ hlt2 W)) (by assumption) ?_
        simp only [Act.put, List.setIfInBounds_toArray, List.set_cons_zero, List.set_cons_succ]
        refine take 5 66 (v := .agg #[.int .i64 s2.kind, .bool s2.b, .int .i64 s2.n, .string (strB s2.text), .slice pk2 s2.keys.length ck2, .slice pl2 s2.list.length cl2]) rfl rfl (by kernel_rfl) (by kernel_rfl) (by kernel_rfl) rfl (fun W hW => exec_load rfl rfl (get_six (belowCell hW (ltOf r0) r0) (belowCell hW (ltOf r1) r1) (belowCell hW (ltOf r2) r2) (belowCell hW (ltOf r3) r3) (belowCell hW (ltOf r4) r4) (belowCell hW (ltOf r5) r5))) (by assumption) ?_
        simp only [Act.put, List.setIfInBounds_toArray, List.set_cons_zero, List.set_cons_succ]
        refine onlyCall 6 67 rfl rfl (by kernel_rfl) rfl (exec_call [.agg #[.int .i64 s1.kind, .bool s1.b, .int .i64 s1.n, .string (strB s1.text), .slice pk1 s1.keys.length ck1, .slice pl1 s1.list.length cl1], .agg #[.int .i64 s2.kind, .bool s2.b, .int .i64 s2.n, .string (strB s2.text), .slice pk2 s2.keys.length ck2, .slice pl2 s2.list.length cl2]] rfl rfl Tryz.func65 (by kernel_rfl) (by kernel_rfl)) ?_
        refine (hcall _ _ _ ((hv1.below hbA).below hU0) ((hv2.below hbA).below hU0)).mono ?_
        rintro e w5 ⟨rfl, hb5⟩
        have hU1 := hU0.trans (hb5.mono hU0.size)
        clear hb5
        refine ⟨_, rfl, .inr hU1, ?_⟩
        simp only [Act.put, List.setIfInBounds_toArray, List.set_cons_zero, List.set_cons_succ]
        refine done (by kernel_rfl) ?_ _
        have hTW := hTA.below hU1
        clear hWA hT hv1 hv2 q0 q1 q2 q3 q4 q5 hbA hbox hb0 hTA r0 r1 r2 r3 r4 r5 hU0 hU1 hcall
        rcases hrange with rfl | rfl | rfl
        · have HF := Lib.hid (And.intro (hR.trans (hz rfl)) hTW.2.2)
          clear hov hR hz hone htwo hTW
          go_wp2
          go_ret
          exact ⟨ret_int HF.out.1.symm, HF.out.2⟩
        · have HF := Lib.hid (And.intro (hR.trans (hone rfl)) hTW)
          clear hov hR hz hone htwo hTW
          go_wp2
          go_roundw
          case rel => exact ⟨j + 1, 1, by omega, by go_num, rfl, Lib.hid ⟨.inl rfl, HF.out.1, HF.out.2⟩⟩
          case measure => simp [intOf]; omega
        · have HF := Lib.hid (And.intro hov (And.intro (hR.trans (htwo rfl)) hTW))
          clear hov hR hz hone htwo hTW
          go_wp2
          go_roundw
          case rel => exact ⟨j + 1, ov, by omega, by go_num, rfl, HF⟩
          case measure => simp [intOf]; omega
      · have HF := Lib.hid (And.intro (show R = ov by
          rw [HJ.out.2.1, List.drop_eq_nil_of_le (by omega), combE_end _ HJ.out.1]) HJ.out.2.2.2.2)
        clear HJ
        go_wp2
        go_ret
        exact ⟨ret_int HF.out.1.symm, HF.out.2⟩
  · go_enter Tryz.func65, Tryz.ntmps65
    go_wp2_with (go_at_call 99; refine HE.out.mono ?_; rintro e w3 ⟨rfl, hb3⟩; have HT3 := Lib.hid (HT.out.below hb3); have p5 := cellOf (o := 5) HT3.out.1 rfl; clear hb3)
    go_loopw [5, 56] (fun o i wr => ∃ (j : Nat) (ov : Int), j ≤ l.length ∧ i = .int .i64 (j : Int) ∧ o = .int .i64 ov ∧ Hid ((ov = 1 ∨ ov = 2) ∧ R = combE ov (eqVs (l.drop j) (l'.drop j)) ∧ TwoV w wr #[.int .i64 5, .bool b, .int .i64 n, .string (strB t), .slice pk ks.length ck, .slice pl l.length cl] #[.int .i64 5, .bool b', .int .i64 n', .string (strB t'), .slice pk' ks'.length ck', .slice pl' l'.length cl'])) (fun _ i _ => l.length - (intOf i).toNat)
    case atStart => exact ⟨0, 2, Nat.zero_le _, rfl, rfl, Lib.hid ⟨.inr rfl, by rw [HR.out, combE_two _ (eqVs_range _ _)]; simp, HT3.out⟩⟩
    case round =>
      obtain ⟨j, ov, hj, rfl, rfl, HJ⟩ := hrel
      by_cases hlt : j < l.length
      · have hlt1 : j + 1 ≤ l.length := hlt
        have hlt2 : j < l'.length := by have := Hell.out; omega
        obtain ⟨hov, hR, hT⟩ := HJ.out
        obtain ⟨g1, o1, pk1, ck1, pl1, cl1, rfl, ⟨a0, a1, a2, a3, a4, a5⟩, hv1⟩ := (HL.out.1.below hT.2.2).at hlt
        obtain ⟨g2, o2, pk2, ck2, pl2, cl2, rfl, ⟨q0, q1, q2, q3, q4, q5⟩, hv2⟩ := (HL.out.2.below hT.2.2).at hlt2
        have hz := @combE_zero ov l[j] l'[j] (l.drop (j + 1)) (l'.drop (j + 1))
        have hone := @combE_one ov l[j] l'[j] (l.drop (j + 1)) (l'.drop (j + 1))
        have htwo := @combE_some ov l[j] l'[j] (l.drop (j + 1)) (l'.drop (j + 1))
        rw [← List.drop_eq_getElem_cons hlt, ← List.drop_eq_getElem_cons hlt2] at hz hone htwo
        have hrange := eqV_range l[j] l'[j]
        have hcall := HI.out l[j] (List.getElem_mem hlt) l'[j] (List.getElem_mem hlt2)
        generalize l[j] = s1 at *
        generalize l'[j] = s2 at *
        generalize eqV s1 s2 = E at *
        have HD := Lib.hid (And.intro hov (And.intro hR (And.intro hT (And.intro hz (And.intro hone (And.intro htwo (And.intro hcall (And.intro hv1 (And.intro hv2 (And.intro q0 (And.intro q1 (And.intro q2 (And.intro q3 (And.intro q4 (And.intro q5 hlt2)))))))))))))))
        clear hov hR hT hz hone htwo hcall hv1 hv2 q0 q1 q2 q3 q4 q5 hlt2 HJ
        go_wp2
        obtain ⟨hov, hR, hT, hz, hone, htwo, hcall, hv1, hv2, q0, q1, q2, q3, q4, q5, hlt2⟩ := HD.out
        have hbA := below_new (w := wr) (.cells #[.int .i64 s1.kind, .bool s1.b, .int .i64 s1.n, .string (strB s1.text), .slice pk1 s1.keys.length ck1, .slice pl1 s1.list.length cl1] 26)
        have hbox := heap_alloc_new wr (.cells #[.int .i64 s1.kind, .bool s1.b, .int .i64 s1.n, .string (strB s1.text), .slice pk1 s1.keys.length ck1, .slice pl1 s1.list.length cl1] 26)
        generalize hWA : wr.alloc (.cells #[.int .i64 s1.kind, .bool s1.b, .int .i64 s1.n, .string (strB s1.text), .slice pk1 s1.keys.length ck1, .slice pl1 s1.list.length cl1] 26) = WA at *
        have hb0 : Below WA.heap.size WA WA.drew := (Below.refl _ _).drew
        have hTA := hT.below hbA
        have r0 := belowCell hbA (ltOf q0) q0
        have r1 := belowCell hbA (ltOf q1) q1
        have r2 := belowCell hbA (ltOf q2) q2
        have r3 := belowCell hbA (ltOf q3) q3
        have r4 := belowCell hbA (ltOf q4) q4
        have r5 := belowCell hbA (ltOf q5) q5
        refine plain_region_draws (fun W => Below WA.heap.size WA W) (by kernel_rfl) hb0 (fun hU0 => ?_)
        refine take 0 61 (v := .agg #[.int .i64 s1.kind, .bool s1.b, .int .i64 s1.n, .string (strB s1.text), .slice pk1 s1.keys.length ck1, .slice pl1 s1.list.length cl1]) rfl rfl (by kernel_rfl) (by kernel_rfl) (by kernel_rfl) rfl (fun W hW => exec_load rfl rfl (get_val (belowBlk hW (Array.getElem?_eq_some_iff.1 hbox).1 hbox))) (by assumption) ?_
        simp only [Act.put, List.setIfInBounds_toArray, List.set_cons_zero, List.set_cons_succ]
        refine take 1 62 (v := .pointer (some ⟨w.heap.size + 1, 5, none⟩)) rfl rfl (by kernel_rfl) (by kernel_rfl) (by kernel_rfl) rfl (fun W hW => exec_fieldAddr rfl rfl (fa_value _ _ (by decide) W)) (by assumption) ?_
        simp only [Act.put, List.setIfInBounds_toArray, List.set_cons_zero, List.set_cons_succ]
        refine take 2 63 (v := .slice (some ⟨g2, o2, none⟩) l'.length cl') rfl rfl (by kernel_rfl) (by kernel_rfl) (by kernel_rfl) rfl (fun W hW => exec_load rfl rfl (run_load1 (w := W) Tryz.underlying24 rfl (cellOf (hTA.below hW).2.1 rfl))) (by assumption) ?_
        simp only [Act.put, List.setIfInBounds_toArray, List.set_cons_zero, List.set_cons_succ]
        refine take 3 64 (v := .int .i64 (j : Int)) rfl rfl (by kernel_rfl) (by kernel_rfl) (by kernel_rfl) rfl (fun W hW => exec_move rfl rfl) (by assumption) ?_
        simp only [Act.put, List.setIfInBounds_toArray, List.set_cons_zero, List.set_cons_succ]
        refine take 4 65 (v := .pointer (some ⟨g2, o2 + j * 6, none⟩)) rfl rfl (by kernel_rfl) (by kernel_rfl) (by kernel_rfl) rfl (fun W hW => exec_indexAddr rfl rfl rfl (ia_vals _ _ _ _ _ hlt2 W)) (by assumption) ?_
        simp only [Act.put, List.setIfInBounds_toArray, List.set_cons_zero, List.set_cons_succ]
        refine take 5 66 (v := .agg #[.int .i64 s2.kind, .bool s2.b, .int .i64 s2.n, .string (strB s2.text), .slice pk2 s2.keys.length ck2, .slice pl2 s2.list.length cl2]) rfl rfl (by kernel_rfl) (by kernel_rfl) (by kernel_rfl) rfl (fun W hW => exec_load rfl rfl (get_six (belowCell hW (ltOf r0) r0) (belowCell hW (ltOf r1) r1) (belowCell hW (ltOf r2) r2) (belowCell hW (ltOf r3) r3) (belowCell hW (ltOf r4) r4) (belowCell hW (ltOf r5) r5))) (by assumption) ?_
        simp only [Act.put, List.setIfInBounds_toArray, List.set_cons_zero, List.set_cons_succ]
        refine onlyCall 6 67 rfl rfl (by kernel_rfl) rfl (exec_call [.agg #[.int .i64 s1.kind, .bool s1.b, .int .i64 s1.n, .string (strB s1.text), .slice pk1 s1.keys.length ck1, .slice pl1 s1.list.length cl1], .agg #[.int .i64 s2.kind, .bool s2.b, .int .i64 s2.n, .string (strB s2.text), .slice pk2 s2.keys.length ck2, .slice pl2 s2.list.length cl2]] rfl rfl Tryz.func65 (by kernel_rfl) (by kernel_rfl)) ?_
        refine (hcall _ _ _ ((hv1.below hbA).below hU0) ((hv2.below hbA).below hU0)).mono ?_
        rintro e w5 ⟨rfl, hb5⟩
        have hU1 := hU0.trans (hb5.mono hU0.size)
        clear hb5
        refine ⟨_, rfl, .inr hU1, ?_⟩
        simp only [Act.put, List.setIfInBounds_toArray, List.set_cons_zero, List.set_cons_succ]
        refine done (by kernel_rfl) ?_ _
        have hTW := hTA.below hU1
        clear hWA hT hv1 hv2 q0 q1 q2 q3 q4 q5 hbA hbox hb0 hTA r0 r1 r2 r3 r4 r5 hU0 hU1 hcall
        rcases hrange with rfl | rfl | rfl
        · have HF := Lib.hid (And.intro (hR.trans (hz rfl)) hTW.2.2)
          clear hov hR hz hone htwo hTW
          go_wp2
          go_ret
          exact ⟨ret_int HF.out.1.symm, HF.out.2⟩
        · have HF := Lib.hid (And.intro (hR.trans (hone rfl)) hTW)
          clear hov hR hz hone htwo hTW
          go_wp2
          go_roundw
          case rel => exact ⟨j + 1, 1, by omega, by go_num, rfl, Lib.hid ⟨.inl rfl, HF.out.1, HF.out.2⟩⟩
          case measure => simp [intOf]; omega
        · have HF := Lib.hid (And.intro hov (And.intro (hR.trans (htwo rfl)) hTW))
          clear hov hR hz hone htwo hTW
          go_wp2
          go_roundw
          case rel => exact ⟨j + 1, ov, by omega, by go_num, rfl, HF⟩
          case measure => simp [intOf]; omega
      · have HF := Lib.hid (And.intro (show R = ov by
          rw [HJ.out.2.1, List.drop_eq_nil_of_le (by omega), combE_end _ HJ.out.1]) HJ.out.2.2.2.2)
        clear HJ
        go_wp2
        go_ret
        exact ⟨ret_int HF.out.1.symm, HF.out.2⟩
end Go.Proofs.YtnkaegdnjfpliaaGreatDoor

/-! value.bare. Printed by gen_vbare.py. -/
namespace Go.Proofs.YtnkaegdnjfpliaaGreatDoor
set_option linter.unusedSimpArgs false
set_option linter.unusedVariables false
open Go.RowKit

theorem exec_lenS {a : Act} {w : World} {o : Oper} {x : Operand} {p : Option Addr} {n c : Nat} (ho : o.op = .call { callee := .builtin .len, args := #[x], argTypes := #[23] }) (hx : a.eval x = .slice p n c) : (execOp a.eval o).run Tryz.prog w = .ok (.value (.int .i64 (n : Int))) w := by
  unfold execOp; simp only [ho, resolve, invoke, Sem.run_bind, Sem.run_pure, Result.andThen_ok, List.map_toArray, List.map_cons, List.map_nil, hx]; simp [go_sem]
theorem exec_lenV {a : Act} {w : World} {o : Oper} {x : Operand} {p : Option Addr} {n c : Nat} (ho : o.op = .call { callee := .builtin .len, args := #[x], argTypes := #[24] }) (hx : a.eval x = .slice p n c) : (execOp a.eval o).run Tryz.prog w = .ok (.value (.int .i64 (n : Int))) w := by
  unfold execOp; simp only [ho, resolve, invoke, Sem.run_bind, Sem.run_pure, Result.andThen_ok, List.map_toArray, List.map_cons, List.map_nil, hx]; simp [go_sem]
/-- Is a value bare, as the code tells it? -/
def bareF (v : V) : Bool := decide (0 ≤ v.kind) && decide (v.kind ≤ 7) && bareV v && (!(v.kind == 6 || v.kind == 7) || decide (0 ≤ v.n))
/-- A value lies in a box. -/
def OneB (w W : World) (x : Array Value) : Prop := W.heap[w.heap.size]? = some (.cells x 26 (0, 0)) ∧ Below w.heap.size w W
theorem OneB.below {w W W' : World} {x : Array Value} (h : OneB w W x) (g : Below W.heap.size W W') : OneB w W' x := ⟨belowBlk g (Array.getElem?_eq_some_iff.1 h.1).1 h.1, below_trans h.2 g⟩
theorem OneB.start (w : World) (x : Array Value) : OneB w (w.alloc (.cells x 26)) x := ⟨heap_alloc_new w _, below_new _⟩
set_option maxRecDepth 100000 in
set_option maxHeartbeats 8000000 in
theorem bare_any {v : V} {w : World} {x : Array Value} (hx : VRd w v x) : Calls Tryz.prog 114 #[.agg x] w fun e w' => e = .returned (.bool (bareF v)) ∧ Below w.heap.size w w' := by
  obtain ⟨pk, ck, pl, cl, rfl, _, hk1, hl1⟩ := hx.open
  cases v with
  | mk k b n t ks l =>
  simp only [V.kind, V.b, V.n, V.text, V.keys, V.list] at *
  have hR : bareF (.mk k b n t ks l) = (decide (0 ≤ k) && decide (k ≤ 7) && ((k == 1 || !b) && (k == 2 || k == 6 || k == 7 || n == 0) && (k == 3 || t.isEmpty) && (k == 5 || ks.isEmpty) && (k == 4 || k == 5 || l.isEmpty)) && (!(k == 6 || k == 7) || decide (0 ≤ n))) := rfl
  have hn0 : (n == 0) = !(decide (n ≠ 0)) := by by_cases h : n = 0 <;> simp [h]
  have ht0 : t.isEmpty = !(decide (t ≠ [])) := by cases t <;> simp
  have hk0 : ks.isEmpty = !(decide (0 < ks.length)) := by cases ks <;> simp
  have hl0 : l.isEmpty = !(decide (0 < l.length)) := by cases l <;> simp
  rw [hn0, ht0, hk0, hl0] at hR
  generalize bareF (.mk k b n t ks l) = R at hR ⊢
  have hT := OneB.start w #[.int .i64 k, .bool b, .int .i64 n, .string (strB t), .slice pk ks.length ck, .slice pl l.length cl]
  have HT := Lib.hid hT
  have HR := Lib.hid hR
  clear hx hk1 hl1 hT hR hn0 ht0 hk0 hl0
  go_enter Tryz.func114, Tryz.ntmps114
  go_wp2
  have hT := HT.out
  generalize w.alloc _ = W0 at *
  have hT0 := hT.below (Below.refl _ _).drew
  have hne : ∀ W : World, (binOp .neq 2 (.int .i64 n) (.int .i64 0)).run Tryz.prog W = .ok (.bool (decide (n ≠ 0))) W := by
    intro W; by_cases h : n = 0 <;> simp [go_sem, h]
  have hgt : ∀ (m : Nat) (W : World), (binOp .gtr 3 (.int .i64 (m : Int)) (.int .i64 0)).run Tryz.prog W = .ok (.bool (decide (0 < m))) W := by
    intro m W; simp [go_sem]
  refine plain_region_draws (fun W => OneB w W #[.int .i64 k, .bool b, .int .i64 n, .string (strB t), .slice pk ks.length ck, .slice pl l.length cl]) (by kernel_rfl) hT0 (fun hU0 => ?_)
  refine take 0 8 (v := .pointer (some ⟨w.heap.size, 1, none⟩)) rfl rfl (by kernel_rfl) (by kernel_rfl) (by kernel_rfl) rfl (fun W hW => exec_fieldAddr rfl rfl (fa_value _ _ (by decide) W)) (by assumption) ?_
  simp only [Act.put, List.setIfInBounds_toArray, List.set_cons_zero, List.set_cons_succ]
  refine take 1 9 (v := .bool b) rfl rfl (by kernel_rfl) (by kernel_rfl) (by kernel_rfl) rfl (fun W hW => exec_load rfl rfl (run_load1 (w := W) Tryz.underlying4 rfl (cellOf hW.1 rfl))) (by assumption) ?_
  simp only [Act.put, List.setIfInBounds_toArray, List.set_cons_zero, List.set_cons_succ]
  refine take 2 10 (v := .pointer (some ⟨w.heap.size, 2, none⟩)) rfl rfl (by kernel_rfl) (by kernel_rfl) (by kernel_rfl) rfl (fun W hW => exec_fieldAddr rfl rfl (fa_value _ _ (by decide) W)) (by assumption) ?_
  simp only [Act.put, List.setIfInBounds_toArray, List.set_cons_zero, List.set_cons_succ]
  refine take 3 11 (v := .int .i64 n) rfl rfl (by kernel_rfl) (by kernel_rfl) (by kernel_rfl) rfl (fun W hW => exec_load rfl rfl (run_load1 (w := W) Tryz.underlying2 rfl (cellOf hW.1 rfl))) (by assumption) ?_
  simp only [Act.put, List.setIfInBounds_toArray, List.set_cons_zero, List.set_cons_succ]
  refine take 4 12 (v := .bool (decide (n ≠ 0))) rfl rfl (by kernel_rfl) (by kernel_rfl) (by kernel_rfl) rfl (fun W hW => exec_bini rfl rfl rfl (hne W)) (by assumption) ?_
  simp only [Act.put, List.setIfInBounds_toArray, List.set_cons_zero, List.set_cons_succ]
  refine take 5 13 (v := .pointer (some ⟨w.heap.size, 3, none⟩)) rfl rfl (by kernel_rfl) (by kernel_rfl) (by kernel_rfl) rfl (fun W hW => exec_fieldAddr rfl rfl (fa_value _ _ (by decide) W)) (by assumption) ?_
  simp only [Act.put, List.setIfInBounds_toArray, List.set_cons_zero, List.set_cons_succ]
  refine take 6 14 (v := .string (strB t)) rfl rfl (by kernel_rfl) (by kernel_rfl) (by kernel_rfl) rfl (fun W hW => exec_load rfl rfl (run_load1 (w := W) Tryz.underlying9 rfl (cellOf hW.1 rfl))) (by assumption) ?_
  simp only [Act.put, List.setIfInBounds_toArray, List.set_cons_zero, List.set_cons_succ]
  refine take 7 15 (v := .bool (decide (t ≠ []))) rfl rfl (by kernel_rfl) (by kernel_rfl) (by kernel_rfl) rfl (fun W hW => exec_bins rfl rfl rfl (run_neStr _ _ t [] W)) (by assumption) ?_
  simp only [Act.put, List.setIfInBounds_toArray, List.set_cons_zero, List.set_cons_succ]
  refine take 8 16 (v := .pointer (some ⟨w.heap.size, 4, none⟩)) rfl rfl (by kernel_rfl) (by kernel_rfl) (by kernel_rfl) rfl (fun W hW => exec_fieldAddr rfl rfl (fa_value _ _ (by decide) W)) (by assumption) ?_
  simp only [Act.put, List.setIfInBounds_toArray, List.set_cons_zero, List.set_cons_succ]
  refine take 9 17 (v := .slice pk ks.length ck) rfl rfl (by kernel_rfl) (by kernel_rfl) (by kernel_rfl) rfl (fun W hW => exec_load rfl rfl (run_load1 (w := W) Tryz.underlying23 rfl (cellOf hW.1 rfl))) (by assumption) ?_
  simp only [Act.put, List.setIfInBounds_toArray, List.set_cons_zero, List.set_cons_succ]
  refine take 10 18 (v := .int .i64 (ks.length : Int)) rfl rfl (by kernel_rfl) (by kernel_rfl) (by kernel_rfl) rfl (fun W hW => exec_lenS rfl rfl) (by assumption) ?_
  simp only [Act.put, List.setIfInBounds_toArray, List.set_cons_zero, List.set_cons_succ]
  refine take 11 19 (v := .bool (decide (0 < ks.length))) rfl rfl (by kernel_rfl) (by kernel_rfl) (by kernel_rfl) rfl (fun W hW => exec_bini rfl rfl rfl (hgt _ W)) (by assumption) ?_
  simp only [Act.put, List.setIfInBounds_toArray, List.set_cons_zero, List.set_cons_succ]
  refine take 12 20 (v := .pointer (some ⟨w.heap.size, 5, none⟩)) rfl rfl (by kernel_rfl) (by kernel_rfl) (by kernel_rfl) rfl (fun W hW => exec_fieldAddr rfl rfl (fa_value _ _ (by decide) W)) (by assumption) ?_
  simp only [Act.put, List.setIfInBounds_toArray, List.set_cons_zero, List.set_cons_succ]
  refine take 13 21 (v := .slice pl l.length cl) rfl rfl (by kernel_rfl) (by kernel_rfl) (by kernel_rfl) rfl (fun W hW => exec_load rfl rfl (run_load1 (w := W) Tryz.underlying24 rfl (cellOf hW.1 rfl))) (by assumption) ?_
  simp only [Act.put, List.setIfInBounds_toArray, List.set_cons_zero, List.set_cons_succ]
  refine take 14 22 (v := .int .i64 (l.length : Int)) rfl rfl (by kernel_rfl) (by kernel_rfl) (by kernel_rfl) rfl (fun W hW => exec_lenV rfl rfl) (by assumption) ?_
  simp only [Act.put, List.setIfInBounds_toArray, List.set_cons_zero, List.set_cons_succ]
  refine take 15 23 (v := .bool (decide (0 < l.length))) rfl rfl (by kernel_rfl) (by kernel_rfl) (by kernel_rfl) rfl (fun W hW => exec_bini rfl rfl rfl (hgt _ W)) (by assumption) ?_
  simp only [Act.put, List.setIfInBounds_toArray, List.set_cons_zero, List.set_cons_succ]
  refine take 16 3 (v := .bool b) rfl rfl (by kernel_rfl) (by kernel_rfl) (by kernel_rfl) rfl (fun W hW => exec_assign rfl rfl) (by assumption) ?_
  simp only [Act.put, List.setIfInBounds_toArray, List.set_cons_zero, List.set_cons_succ]
  refine take 17 4 (v := .bool (decide (n ≠ 0))) rfl rfl (by kernel_rfl) (by kernel_rfl) (by kernel_rfl) rfl (fun W hW => exec_assign rfl rfl) (by assumption) ?_
  simp only [Act.put, List.setIfInBounds_toArray, List.set_cons_zero, List.set_cons_succ]
  refine take 18 5 (v := .bool (decide (t ≠ []))) rfl rfl (by kernel_rfl) (by kernel_rfl) (by kernel_rfl) rfl (fun W hW => exec_assign rfl rfl) (by assumption) ?_
  simp only [Act.put, List.setIfInBounds_toArray, List.set_cons_zero, List.set_cons_succ]
  refine take 19 6 (v := .bool (decide (0 < ks.length))) rfl rfl (by kernel_rfl) (by kernel_rfl) (by kernel_rfl) rfl (fun W hW => exec_assign rfl rfl) (by assumption) ?_
  simp only [Act.put, List.setIfInBounds_toArray, List.set_cons_zero, List.set_cons_succ]
  refine take 20 7 (v := .bool (decide (0 < l.length))) rfl rfl (by kernel_rfl) (by kernel_rfl) (by kernel_rfl) rfl (fun W hW => exec_assign rfl rfl) (by assumption) ?_
  simp only [Act.put, List.setIfInBounds_toArray, List.set_cons_zero, List.set_cons_succ]
  refine done (by kernel_rfl) ?_ _
  have HF := Lib.hid (And.intro HR.out (And.intro (cellOf (o := 0) hU0.1 rfl) (And.intro (cellOf (o := 2) hU0.1 rfl) hU0.2)))
  have q0 := HF.out.2.1
  have q2 := HF.out.2.2.1
  clear hT hT0 hU0 HT HR hgt hne
  generalize W0.drew = W1 at *
  revert HF
  generalize decide (n ≠ 0) = d2
  generalize decide (t ≠ []) = d3
  generalize decide (0 < ks.length) = d4
  generalize decide (0 < l.length) = d5
  intro HF
  by_cases hk : 0 ≤ k ∧ k ≤ 7
  · have hk' : k = 0 ∨ k = 1 ∨ k = 2 ∨ k = 3 ∨ k = 4 ∨ k = 5 ∨ k = 6 ∨ k = 7 := by omega
    clear hk
    rcases hk' with rfl | rfl | rfl | rfl | rfl | rfl | rfl | rfl
    · cases b <;> cases d2 <;> cases d3 <;> cases d4 <;> cases d5 <;> (go_wp2; go_ret; exact ⟨ret_bool (by rw [HF.out.1]; rfl), HF.out.2.2.2⟩)
    · cases d2 <;> cases d3 <;> cases d4 <;> cases d5 <;> (go_wp2; go_ret; exact ⟨ret_bool (by rw [HF.out.1]; cases b <;> rfl), HF.out.2.2.2⟩)
    · cases b <;> cases d3 <;> cases d4 <;> cases d5 <;> (go_wp2; go_ret; exact ⟨ret_bool (by rw [HF.out.1]; cases d2 <;> rfl), HF.out.2.2.2⟩)
    · cases b <;> cases d2 <;> cases d4 <;> cases d5 <;> (go_wp2; go_ret; exact ⟨ret_bool (by rw [HF.out.1]; cases d3 <;> rfl), HF.out.2.2.2⟩)
    · cases b <;> cases d2 <;> cases d3 <;> cases d4 <;> (go_wp2; go_ret; exact ⟨ret_bool (by rw [HF.out.1]; cases d5 <;> rfl), HF.out.2.2.2⟩)
    · cases b <;> cases d2 <;> cases d3 <;> (go_wp2; go_ret; exact ⟨ret_bool (by rw [HF.out.1]; cases d4 <;> cases d5 <;> rfl), HF.out.2.2.2⟩)
    · by_cases hn : n < 0
      · have hd : decide (0 ≤ n) = false := by simp; omega
        go_wp2
        go_ret
        exact ⟨ret_bool (by rw [HF.out.1, hd]; simp), HF.out.2.2.2⟩
      · have hd : decide (0 ≤ n) = true := by simp; omega
        have hlt : decide (n < 0) = false := by simp; omega
        cases b <;> cases d3 <;> cases d4 <;> cases d5 <;> (go_wp2; go_ret; exact ⟨ret_bool (by rw [HF.out.1, hd]; cases d2 <;> rfl), HF.out.2.2.2⟩)
    · by_cases hn : n < 0
      · have hd : decide (0 ≤ n) = false := by simp; omega
        go_wp2
        go_ret
        exact ⟨ret_bool (by rw [HF.out.1, hd]; simp), HF.out.2.2.2⟩
      · have hd : decide (0 ≤ n) = true := by simp; omega
        have hlt : decide (n < 0) = false := by simp; omega
        cases b <;> cases d3 <;> cases d4 <;> cases d5 <;> (go_wp2; go_ret; exact ⟨ret_bool (by rw [HF.out.1, hd]; cases d2 <;> rfl), HF.out.2.2.2⟩)
  · have e0 : (k == 0) = false := by rw [beq_eq_false_iff_ne]; omega
    have e1 : (k == 1) = false := by rw [beq_eq_false_iff_ne]; omega
    have e2 : (k == 2) = false := by rw [beq_eq_false_iff_ne]; omega
    have e3 : (k == 3) = false := by rw [beq_eq_false_iff_ne]; omega
    have e4 : (k == 4) = false := by rw [beq_eq_false_iff_ne]; omega
    have e5 : (k == 5) = false := by rw [beq_eq_false_iff_ne]; omega
    have e6 : (k == 6) = false := by rw [beq_eq_false_iff_ne]; omega
    have e7 : (k == 7) = false := by rw [beq_eq_false_iff_ne]; omega
    have hR : R = false := by
      rw [HF.out.1]
      by_cases h0 : 0 ≤ k
      · have : ¬ k ≤ 7 := fun h => hk ⟨h0, h⟩
        simp [this]
      · simp [h0]
    have HF2 := Lib.hid (And.intro hR HF.out.2.2.2)
    clear hR HF hk
    go_wp2
    go_ret
    exact ⟨ret_bool HF2.out.1.symm, HF2.out.2⟩
end Go.Proofs.YtnkaegdnjfpliaaGreatDoor

/-! value.may. -/
namespace Go.Proofs.YtnkaegdnjfpliaaGreatDoor
set_option linter.unusedSimpArgs false
set_option linter.unusedVariables false
open Go.RowKit

/-- What the program's tables hold. -/
structure Env (w : World) : Prop where
  tabs : Lib.Utf8Tabs 0 1 w
  len : ∃ m, w.cell? ⟨2, 0, none⟩ = some (.int .i64 m)
  pow : ∀ w', Below 6 w w' → Lib.TabIs Tryz.prog w' "internal/strconv.uint64pow10" .u64 Lib.pow10Tab
  size : 6 ≤ w.heap.size
theorem Env.below {w w' : World} (h : Env w) (g : Below 6 w w') : Env w' := by
  have cell : ∀ {b o : Nat} {v : Value}, b < 6 → w.cell? ⟨b, o, none⟩ = some v → w'.cell? ⟨b, o, none⟩ = some v := fun hb hc => belowCell g hb hc
  refine ⟨⟨fun c hc => cell (by decide) (h.tabs.1 c hc), fun i hi => ⟨cell (by decide) (h.tabs.2 i hi).1, cell (by decide) (h.tabs.2 i hi).2⟩⟩, ?_, fun w2 h2 => h.pow w2 (g.trans h2), Nat.le_trans h.size g.size⟩
  obtain ⟨m, hm⟩ := h.len
  exact ⟨m, cell (by decide) hm⟩
theorem Env.b {w w' : World} (h : Env w) (g : Below w.heap.size w w') : Env w' := h.below (g.mono h.size)
theorem valid_any {w : World} (hE : Env w) (l : List UInt8) (h : l.length ≤ 140737488355328) : Calls Tryz.prog 73 #[.string (strB l)] w fun e w' => e = .returned (.bool (Lib.validD l)) ∧ Below w.heap.size w w' :=
  Any.utf8_ValidString Tryz.laysValid (strB l) w (by rw [strB_size]; omega) hE.tabs
theorem less_eq : ∀ a b : List UInt8, Op.bytesLess a b = ltB a b := by
  intro a
  induction a with
  | nil => intro b; cases b <;> simp [Op.bytesLess, ltB, cmpB, cmpL]
  | cons x r ih =>
    intro b
    cases b with
    | nil => simp [Op.bytesLess, ltB, cmpB, cmpL]
    | cons y s =>
      have := ih s
      unfold ltB cmpB at *
      simp only [Op.bytesLess, cmpL, this]
      rcases cmpI_cases (x.toNat : Int) (y.toNat : Int) with ⟨h, e⟩ | ⟨h, e⟩ | ⟨h, e⟩ <;> rw [e]
      · have hx : x < y := by rw [UInt8.lt_iff_toNat_lt]; omega
        simp [hx]
      · have hx : x = y := UInt8.toNat_inj.1 (by omega)
        subst hx
        simp
      · have hx : ¬ x < y := by rw [UInt8.lt_iff_toNat_lt]; omega
        have hne : x ≠ y := fun e => by subst e; omega
        simp [hx, hne]
theorem risesB_snoc2 : ∀ (x : List (List UInt8)) (a b : List UInt8), risesB (x ++ [a, b]) = (risesB (x ++ [a]) && ltB a b) := by
  intro x
  induction x with
  | nil => intro a b; simp [risesB]
  | cons y r ih =>
    intro a b
    cases r with
    | nil => simp [risesB]
    | cons z r => 
      have := ih a b
      simp only [List.cons_append, risesB] at this ⊢
      rw [this, Bool.and_assoc]
theorem risesB_step {l : List (List UInt8)} {j : Nat} (h : j + 1 < l.length) : risesB (l.take (j + 2)) = (risesB (l.take (j + 1)) && ltB l[j] l[j + 1]) := by
  have e1 : l.take (j + 1) = l.take j ++ [l[j]] := List.take_succ_eq_append_getElem (by omega)
  have e2 : l.take (j + 2) = l.take j ++ [l[j], l[j + 1]] := by
    rw [show j + 2 = (j + 1) + 1 from rfl, List.take_succ_eq_append_getElem h, e1, List.append_assoc]; rfl
  rw [e1, e2, risesB_snoc2]
theorem risesB_take {l : List (List UInt8)} (h : risesB l = true) : ∀ j, j ≤ l.length → risesB (l.take j) = true := by
  intro j hj
  obtain ⟨d, hd⟩ : ∃ d, l.length = j + d := ⟨l.length - j, by omega⟩
  induction d generalizing j with
  | zero => rw [List.take_of_length_le (by omega)]; exact h
  | succ d ih =>
    have h1 := ih (j + 1) (by omega) (by omega)
    cases j with
    | zero => simp [risesB]
    | succ j =>
      rw [risesB_step (by omega)] at h1
      exact (Bool.and_eq_true _ _ ▸ h1).1
theorem risesB_low {l : List (List UInt8)} {j : Nat} (h : ¬ 0 < j) : risesB (l.take (j + 1)) = true := by
  obtain rfl : j = 0 := by omega
  cases l with
  | nil => rfl
  | cons a r => simp [risesB]
/-- May a value alone be, as the code tells it? -/
theorem oneV_bare (u : List UInt8 → Bool) (v : V) : oneV u v = (bareF v && u v.text && (!(v.kind == 5) || v.keys.length == v.list.length) && (v.keys.all u && risesB v.keys)) := by
  unfold oneV bareF
  generalize decide (0 ≤ v.kind) = a1
  generalize decide (v.kind ≤ 7) = a2
  generalize bareV v = a3
  generalize (!(v.kind == 6 || v.kind == 7) || decide (0 ≤ v.n)) = a4
  generalize u v.text = a5
  generalize (!(v.kind == 5) || v.keys.length == v.list.length) = a6
  simp only [Bool.and_assoc]
set_option maxRecDepth 100000 in
set_option maxHeartbeats 8000000 in
theorem may_any {v : V} {w : World} {x : Array Value} (hE : Env w) (hx : VRd w v x) : Calls Tryz.prog 86 #[.agg x] w fun e w' => e = .returned (.bool (oneV Lib.validD v)) ∧ Below w.heap.size w w' := by
  have hR := oneV_bare Lib.validD v
  have hT := OneB.start w x
  have hb1 := bare_any (hx.below hT.2)
  have hall : ∀ {W : World}, Below w.heap.size w W → Calls Tryz.prog 73 #[.string (strB v.text)] W fun e w' => e = .returned (.bool (Lib.validD v.text)) ∧ Below W.heap.size W w' := by
    obtain ⟨pk, ck, pl, cl, _, ht, _, _⟩ := hx.open
    exact fun hb => valid_any (hE.b hb) v.text ht
  have hEb : ∀ {W : World}, Below w.heap.size w W → Env W := fun hb => hE.b hb
  obtain ⟨pk, ck, pl, cl, rfl, _, hk1, hl1⟩ := hx.open
  cases v with
  | mk k b n t ks l =>
  simp only [V.kind, V.b, V.n, V.text, V.keys, V.list] at *
  generalize oneV Lib.validD (.mk k b n t ks l) = R at hR ⊢
  generalize bareF (.mk k b n t ks l) = R1 at hR hb1
  have z1 : (ks.length : Int) ≤ 140737488355328 := by have := hk1.1; have := hk1.2.1; omega
  generalize hX : (#[.int .i64 k, .bool b, .int .i64 n, .string (strB t), .slice pk ks.length ck, .slice pl l.length cl] : Array Value) = X at *
  have HT := Lib.hid hT
  have HB := Lib.hid hb1
  have HV := Lib.hid (fun (W : World) (hb : Below w.heap.size w W) => hall hb)
  have HE := Lib.hid (fun (W : World) (hb : Below w.heap.size w W) => hEb hb)
  have HK := Lib.hid hk1
  clear hx hl1 hk1 hT hb1 hall hEb hE
  subst hX
  cases R1
  · have HR := Lib.hid hR
    clear hR
    go_enter Tryz.func86, Tryz.ntmps86
    go_wp2_with (first
      | (go_at_call 114; refine HB.out.mono ?_; rintro e w1 ⟨rfl, hb1⟩; have HT1 := Lib.hid (HT.out.below hb1); clear hb1))
    go_ret
    exact ⟨ret_bool (by rw [HR.out]; rfl), HT1.out.2⟩
  have hV0 := HV.out
  generalize hr2 : Lib.validD t = R2 at hR hV0
  have HV0 := Lib.hid hV0
  clear hV0
  cases R2
  · have HR := Lib.hid hR
    clear hR
    go_enter Tryz.func86, Tryz.ntmps86
    go_wp2_with (first
      | (go_at_call 114; refine HB.out.mono ?_; rintro e w1 ⟨rfl, hb1⟩; have HT1 := Lib.hid (HT.out.below hb1); have p3 := cellOf (o := 3) HT1.out.1 rfl; clear hb1)
      | (go_at_call 73; refine (HV0.out _ HT1.out.2).mono ?_; rintro e w2 ⟨rfl, hb2⟩; have HT2 := Lib.hid (HT1.out.below hb2); clear hb2))
    go_ret
    exact ⟨ret_bool (by rw [HR.out]; rfl), HT2.out.2⟩
  by_cases h5 : k = 5 ∧ ks.length ≠ l.length
  · obtain ⟨rfl, hne⟩ := h5
    have dl : ((ks.length : Int) != (l.length : Int)) = true := by rw [bne_iff_ne]; omega
    have HR := Lib.hid (show R = false by rw [hR, beq_false_of_ne hne]; simp)
    clear hR hne
    go_enter Tryz.func86, Tryz.ntmps86
    go_wp2_with (first
      | (go_at_call 114; refine HB.out.mono ?_; rintro e w1 ⟨rfl, hb1⟩; have HT1 := Lib.hid (HT.out.below hb1); have p3 := cellOf (o := 3) HT1.out.1 rfl; clear hb1)
      | (go_at_call 73; refine (HV0.out _ HT1.out.2).mono ?_; rintro e w2 ⟨rfl, hb2⟩; have HT2 := Lib.hid (HT1.out.below hb2); have p0 := cellOf (o := 0) HT2.out.1 rfl; have p4 := cellOf (o := 4) HT2.out.1 rfl; have p5 := cellOf (o := 5) HT2.out.1 rfl; clear hb2))
    go_ret
    exact ⟨ret_bool HR.out.symm, HT2.out.2⟩
  have hc : (!(k == 5) || ks.length == l.length) = true := by
    by_cases e : k = 5
    · have : ks.length = l.length := Decidable.byContradiction fun h => h5 ⟨e, h⟩
      simp [this]
    · simp [e]
  have HR := Lib.hid (show R = (ks.all Lib.validD && risesB ks) by rw [hR, hc]; simp)
  have hk5 : (k == 5) = false ∨ (k = 5 ∧ ((ks.length : Int) != (l.length : Int)) = false) := by
    by_cases e : k = 5
    · exact .inr ⟨e, by rw [bne_eq_false_iff_eq]; have : ks.length = l.length := Decidable.byContradiction fun h => h5 ⟨e, h⟩; omega⟩
    · exact .inl (by simpa using e)
  clear hR h5 hc hr2
  rcases hk5 with hk5 | ⟨rfl, hk5⟩
  · go_enter Tryz.func86, Tryz.ntmps86
    go_wp2_with (first
      | (go_at_call 114; refine HB.out.mono ?_; rintro e w1 ⟨rfl, hb1⟩; have HT1 := Lib.hid (HT.out.below hb1); have p3 := cellOf (o := 3) HT1.out.1 rfl; clear hb1)
      | (go_at_call 73; refine (HV0.out _ HT1.out.2).mono ?_; rintro e w2 ⟨rfl, hb2⟩; have HT2 := Lib.hid (HT1.out.below hb2); have p0 := cellOf (o := 0) HT2.out.1 rfl; have p4 := cellOf (o := 4) HT2.out.1 rfl; have p5 := cellOf (o := 5) HT2.out.1 rfl; clear hb2))
    go_loopw [31] (fun i W => ∃ j : Nat, j ≤ ks.length ∧ i = .int .i64 (j : Int) ∧ Hid (OneB w W #[.int .i64 k, .bool b, .int .i64 n, .string (strB t), .slice pk ks.length ck, .slice pl l.length cl] ∧ (ks.take j).all Lib.validD = true ∧ risesB (ks.take j) = true)) (fun i _ => ks.length - (intOf i).toNat)
    case atStart => exact ⟨0, Nat.zero_le _, rfl, Lib.hid ⟨HT2.out, rfl, rfl⟩⟩
    case round =>
      obtain ⟨j, hj, rfl, HJ⟩ := hrel
      by_cases hlt : j < ks.length
      · have hlt1 : j + 1 ≤ ks.length := hlt
        have hT := HJ.out.1
        obtain ⟨bk, ok, rfl, q0, hsl⟩ := (HK.out.below hT.2).get hlt
        have hcall := valid_any (HE.out wr hT.2) ks[j] hsl
        generalize hv : Lib.validD ks[j] = vj at hcall
        have hall1 : (ks.take (j + 1)).all Lib.validD = vj := by
          rw [List.take_succ_eq_append_getElem hlt, List.all_append, HJ.out.2.1]; simp [hv]
        cases vj with
        | false =>
          have hRf : R = false := by
            rw [HR.out]
            have : ks.all Lib.validD = false := by
              rw [List.all_eq_false]; exact ⟨ks[j], List.getElem_mem hlt, by simp [hv]⟩
            rw [this]; rfl
          have HC := Lib.hid (And.intro hcall (And.intro hT.2 hRf))
          clear hcall hv hall1 hRf hT
          generalize ks[j] = s1 at *
          go_wp2_with (go_at_call 73; refine HC.out.1.mono ?_; rintro e w3 ⟨rfl, hb3⟩; have HB3 := Lib.hid hb3; clear hb3)
          go_ret
          exact ⟨ret_bool HC.out.2.2.symm, below_trans HC.out.2.1 HB3.out⟩
        | true =>
          by_cases h0 : 0 < j
          case neg =>
            have HC := Lib.hid (And.intro hcall (And.intro hT hall1))
            clear hcall hv hall1 hT
            generalize ks[j] = s1 at *
            go_wp2_with (go_at_call 73; refine HC.out.1.mono ?_; rintro e w3 ⟨rfl, hb3⟩; have HB3 := Lib.hid hb3; clear hb3)
            go_roundw
            case rel => exact ⟨j + 1, hlt1, by go_num, Lib.hid ⟨HC.out.2.1.below HB3.out, HC.out.2.2, risesB_low h0⟩⟩
            case measure => simp [intOf]; omega
          case pos =>
            obtain ⟨m, hm⟩ : ∃ m, j = m + 1 := ⟨j - 1, by omega⟩
            have hmi : (j : Int) - 1 = (m : Int) := by omega
            have hmk : m < ks.length := by omega
            obtain ⟨bk2, ok2, e2, q1, _⟩ := (HK.out.below hT.2).get hmk
            cases e2
            have hstep : risesB (ks.take (j + 1)) = ltB ks[m] ks[j] := by
              have := risesB_step (l := ks) (j := m) (by omega)
              have h2 := HJ.out.2.2
              subst hm
              rw [this, h2, Bool.true_and]
            have hless : Op.bytesLess (strB ks[m]).toList (strB ks[j]).toList = ltB ks[m] ks[j] := by rw [strB_toList, strB_toList]; exact less_eq _ _
            generalize hlb : ltB ks[m] ks[j] = lb at hless hstep
            clear hm
            cases lb with
            | false =>
              have hRf : R = false := by
                rw [HR.out]
                have : risesB ks = false := by
                  cases e : risesB ks with
                  | false => rfl
                  | true => have := risesB_take e (j + 1) hlt1; rw [hstep] at this; cases this
                rw [this]; simp
              have HC := Lib.hid (And.intro hcall (And.intro hT (And.intro hRf q1)))
              clear hcall hv hall1 hT hRf hlb hstep q1
              generalize ks[j] = s1 at *
              generalize ks[m] = s2 at *
              go_wp2_with (go_at_call 73; refine HC.out.1.mono ?_; rintro e w3 ⟨rfl, hb3⟩; have HT3 := Lib.hid (HC.out.2.1.below hb3); have p4 := cellOf (o := 4) HT3.out.1 rfl; have q1 := belowCell hb3 (ltOf HC.out.2.2.2) HC.out.2.2.2; clear hb3)
              go_ret
              exact ⟨ret_bool HC.out.2.2.1.symm, HT3.out.2⟩
            | true =>
              have HC := Lib.hid (And.intro hcall (And.intro hT (And.intro hall1 (And.intro hstep q1))))
              clear hcall hv hall1 hT hlb hstep q1
              generalize ks[j] = s1 at *
              generalize ks[m] = s2 at *
              go_wp2_with (go_at_call 73; refine HC.out.1.mono ?_; rintro e w3 ⟨rfl, hb3⟩; have HT3 := Lib.hid (HC.out.2.1.below hb3); have p4 := cellOf (o := 4) HT3.out.1 rfl; have q1 := belowCell hb3 (ltOf HC.out.2.2.2.2) HC.out.2.2.2.2; clear hb3)
              go_roundw
              case rel => exact ⟨j + 1, hlt1, by go_num, Lib.hid ⟨HT3.out, HC.out.2.2.1, HC.out.2.2.2.1⟩⟩
              case measure => simp [intOf]; omega
      · obtain rfl : j = ks.length := by omega
        have hRt : R = true := by
          have h := HJ.out.2
          rw [List.take_length] at h
          rw [HR.out, h.1, h.2]; rfl
        have HF := Lib.hid (And.intro hRt HJ.out.1.2)
        clear hRt HJ
        go_wp2
        go_ret
        exact ⟨ret_bool HF.out.1.symm, HF.out.2⟩
  · go_enter Tryz.func86, Tryz.ntmps86
    go_wp2_with (first
      | (go_at_call 114; refine HB.out.mono ?_; rintro e w1 ⟨rfl, hb1⟩; have HT1 := Lib.hid (HT.out.below hb1); have p3 := cellOf (o := 3) HT1.out.1 rfl; clear hb1)
      | (go_at_call 73; refine (HV0.out _ HT1.out.2).mono ?_; rintro e w2 ⟨rfl, hb2⟩; have HT2 := Lib.hid (HT1.out.below hb2); have p0 := cellOf (o := 0) HT2.out.1 rfl; have p4 := cellOf (o := 4) HT2.out.1 rfl; have p5 := cellOf (o := 5) HT2.out.1 rfl; clear hb2))
    go_loopw [31] (fun i W => ∃ j : Nat, j ≤ ks.length ∧ i = .int .i64 (j : Int) ∧ Hid (OneB w W #[.int .i64 5, .bool b, .int .i64 n, .string (strB t), .slice pk ks.length ck, .slice pl l.length cl] ∧ (ks.take j).all Lib.validD = true ∧ risesB (ks.take j) = true)) (fun i _ => ks.length - (intOf i).toNat)
    case atStart => exact ⟨0, Nat.zero_le _, rfl, Lib.hid ⟨HT2.out, rfl, rfl⟩⟩
    case round =>
      obtain ⟨j, hj, rfl, HJ⟩ := hrel
      by_cases hlt : j < ks.length
      · have hlt1 : j + 1 ≤ ks.length := hlt
        have hT := HJ.out.1
        obtain ⟨bk, ok, rfl, q0, hsl⟩ := (HK.out.below hT.2).get hlt
        have hcall := valid_any (HE.out wr hT.2) ks[j] hsl
        generalize hv : Lib.validD ks[j] = vj at hcall
        have hall1 : (ks.take (j + 1)).all Lib.validD = vj := by
          rw [List.take_succ_eq_append_getElem hlt, List.all_append, HJ.out.2.1]; simp [hv]
        cases vj with
        | false =>
          have hRf : R = false := by
            rw [HR.out]
            have : ks.all Lib.validD = false := by
              rw [List.all_eq_false]; exact ⟨ks[j], List.getElem_mem hlt, by simp [hv]⟩
            rw [this]; rfl
          have HC := Lib.hid (And.intro hcall (And.intro hT.2 hRf))
          clear hcall hv hall1 hRf hT
          generalize ks[j] = s1 at *
          go_wp2_with (go_at_call 73; refine HC.out.1.mono ?_; rintro e w3 ⟨rfl, hb3⟩; have HB3 := Lib.hid hb3; clear hb3)
          go_ret
          exact ⟨ret_bool HC.out.2.2.symm, below_trans HC.out.2.1 HB3.out⟩
        | true =>
          by_cases h0 : 0 < j
          case neg =>
            have HC := Lib.hid (And.intro hcall (And.intro hT hall1))
            clear hcall hv hall1 hT
            generalize ks[j] = s1 at *
            go_wp2_with (go_at_call 73; refine HC.out.1.mono ?_; rintro e w3 ⟨rfl, hb3⟩; have HB3 := Lib.hid hb3; clear hb3)
            go_roundw
            case rel => exact ⟨j + 1, hlt1, by go_num, Lib.hid ⟨HC.out.2.1.below HB3.out, HC.out.2.2, risesB_low h0⟩⟩
            case measure => simp [intOf]; omega
          case pos =>
            obtain ⟨m, hm⟩ : ∃ m, j = m + 1 := ⟨j - 1, by omega⟩
            have hmi : (j : Int) - 1 = (m : Int) := by omega
            have hmk : m < ks.length := by omega
            obtain ⟨bk2, ok2, e2, q1, _⟩ := (HK.out.below hT.2).get hmk
            cases e2
            have hstep : risesB (ks.take (j + 1)) = ltB ks[m] ks[j] := by
              have := risesB_step (l := ks) (j := m) (by omega)
              have h2 := HJ.out.2.2
              subst hm
              rw [this, h2, Bool.true_and]
            have hless : Op.bytesLess (strB ks[m]).toList (strB ks[j]).toList = ltB ks[m] ks[j] := by rw [strB_toList, strB_toList]; exact less_eq _ _
            generalize hlb : ltB ks[m] ks[j] = lb at hless hstep
            clear hm
            cases lb with
            | false =>
              have hRf : R = false := by
                rw [HR.out]
                have : risesB ks = false := by
                  cases e : risesB ks with
                  | false => rfl
                  | true => have := risesB_take e (j + 1) hlt1; rw [hstep] at this; cases this
                rw [this]; simp
              have HC := Lib.hid (And.intro hcall (And.intro hT (And.intro hRf q1)))
              clear hcall hv hall1 hT hRf hlb hstep q1
              generalize ks[j] = s1 at *
              generalize ks[m] = s2 at *
              go_wp2_with (go_at_call 73; refine HC.out.1.mono ?_; rintro e w3 ⟨rfl, hb3⟩; have HT3 := Lib.hid (HC.out.2.1.below hb3); have p4 := cellOf (o := 4) HT3.out.1 rfl; have q1 := belowCell hb3 (ltOf HC.out.2.2.2) HC.out.2.2.2; clear hb3)
              go_ret
              exact ⟨ret_bool HC.out.2.2.1.symm, HT3.out.2⟩
            | true =>
              have HC := Lib.hid (And.intro hcall (And.intro hT (And.intro hall1 (And.intro hstep q1))))
              clear hcall hv hall1 hT hlb hstep q1
              generalize ks[j] = s1 at *
              generalize ks[m] = s2 at *
              go_wp2_with (go_at_call 73; refine HC.out.1.mono ?_; rintro e w3 ⟨rfl, hb3⟩; have HT3 := Lib.hid (HC.out.2.1.below hb3); have p4 := cellOf (o := 4) HT3.out.1 rfl; have q1 := belowCell hb3 (ltOf HC.out.2.2.2.2) HC.out.2.2.2.2; clear hb3)
              go_roundw
              case rel => exact ⟨j + 1, hlt1, by go_num, Lib.hid ⟨HT3.out, HC.out.2.2.1, HC.out.2.2.2.1⟩⟩
              case measure => simp [intOf]; omega
      · obtain rfl : j = ks.length := by omega
        have hRt : R = true := by
          have h := HJ.out.2
          rw [List.take_length] at h
          rw [HR.out, h.1, h.2]; rfl
        have HF := Lib.hid (And.intro hRt HJ.out.1.2)
        clear hRt HJ
        go_wp2
        go_ret
        exact ⟨ret_bool HF.out.1.symm, HF.out.2⟩
end Go.Proofs.YtnkaegdnjfpliaaGreatDoor

/-! strings.Builder: what is written. -/
namespace Go.Proofs.YtnkaegdnjfpliaaGreatDoor
set_option linter.unusedSimpArgs false
set_option linter.unusedVariables false
open Go.RowKit

theorem builder_size : (Tryz.prog.info? 79).map (·.size) = some 2 := by kernel_rfl
theorem builder_lies : liesAt Tryz.prog Tryz.prog.depth 79 (2 / Tryz.prog.cellsOf 79) 0 79 1 = true := by kernel_rfl
set_option maxHeartbeats 1000000 in
set_option maxRecDepth 100000 in
theorem check_used (b : Nat) (w : World) (h0 : w.cell? ⟨b, 0, none⟩ = some (.pointer (some ⟨b, 0, none⟩))) :
    Calls Tryz.prog 106 #[.pointer (some ⟨b, 0, none⟩)] w fun e w' => e = .returned (.tuple #[]) ∧ w' = w := by
  obtain ⟨j, hj, _⟩ := Option.map_eq_some_iff.1 builder_size
  go_enter Tryz.func106, Tryz.ntmps106
  go_wp2
  rw [Lib.run_neq_ptr_same w _ Tryz.underlying77 hj]
  go_wp2
  go_end0
  exact ⟨rfl, rfl⟩
set_option maxHeartbeats 1000000 in
set_option maxRecDepth 100000 in
theorem check_fresh (b : Nat) (w : World) (h0 : w.cell? ⟨b, 0, none⟩ = some (.pointer none)) (hsh : w.shape? b = some (79, 2)) (hfz : w.frozen? ⟨b, 0, none⟩ = false) :
    Calls Tryz.prog 106 #[.pointer (some ⟨b, 0, none⟩)] w fun e w' => e = .returned (.tuple #[]) ∧ w' = w.setCell ⟨b, 0, none⟩ (.pointer (some ⟨b, 0, none⟩)) := by
  obtain ⟨j, hj, hjs⟩ := Option.map_eq_some_iff.1 builder_size
  go_enter Tryz.func106, Tryz.ntmps106
  go_wp2
  rw [Lib.run_to_unsafe w ⟨b, 0, none⟩ Tryz.underlying77 Tryz.underlying133 hj (by rw [hjs]; decide) hsh (Nat.zero_lt_succ 1)]
  simp only [Result.andThen]
  rw [Oper.upon_value]
  go_wp2
  rw [run_callFunc_extern Tryz.func126 (by kernel_rfl) (by kernel_rfl) (by kernel_rfl) (e := Extern.AbiNoEscape.same) (by kernel_rfl)]
  rw [Lib.run_noEscape]
  simp only [Result.andThen]
  rw [Oper.upon_value]
  go_wp2
  rw [Lib.run_from_unsafe w ⟨b, 0, none⟩ Tryz.underlying133 Tryz.underlying77 hj hsh builder_lies]
  simp only [Result.andThen]
  rw [Oper.upon_value]
  go_wp2
  go_end0
  exact ⟨rfl, rfl⟩
/-- Blocks that are frozen somewhere stay. -/
def Froz (w w' : World) : Prop := ∀ (g : Nat) (cs : Array Value) (t : TypeId) (fr : Nat × Nat), fr ≠ (0, 0) → w.heap[g]? = some (.cells cs t fr) → w'.heap[g]? = some (.cells cs t fr)
theorem Froz.refl (w : World) : Froz w w := fun _ _ _ _ _ h => h
theorem Froz.trans {a b c : World} (h : Froz a b) (k : Froz b c) : Froz a c := fun g cs t fr hf hg => k g cs t fr hf (h g cs t fr hf hg)
theorem Froz.setCell {w w1 : World} (h : Froz w w1) {b o : Nat} {sp : Option Nat} {cs : Array Value} {t : TypeId} (hb : w1.heap[b]? = some (.cells cs t (0, 0))) (v : Value) : Froz w (w1.setCell ⟨b, o, sp⟩ v) := by
  intro g cs' t' fr hf hg
  have h1 := h g cs' t' fr hf hg
  have hne : g ≠ b := by
    rintro rfl
    rw [hb] at h1
    simp only [Option.some.injEq, Obj.cells.injEq] at h1
    exact hf h1.2.2.symm
  rw [Below.heap_setCell _ _ _ _ hne]
  exact h1
theorem Froz.alloc {w w1 : World} (h : Froz w w1) (o : Obj) : Froz w (w1.alloc o) := by
  intro g cs' t' fr hf hg
  have h1 := h g cs' t' fr hf hg
  have hlt := (Array.getElem?_eq_some_iff.1 h1).1
  rw [heap_get_alloc, if_neg (by omega)]
  exact h1
theorem Froz.grown {w w1 w2 : World} {base n : Nat} {e : TypeId} {v : Value} {xs : List Value} (h : Froz w w1) (hown : w1.ownsRow base e 1 v n xs) (hb : ∀ k, k < w1.heap.size → v.ownBlock ≠ some k → w2.heap[k]? = w1.heap[k]?) : Froz w w2 := by
  intro g cs' t' fr hf hg
  have h1 := h g cs' t' fr hf hg
  have hlt := (Array.getElem?_eq_some_iff.1 h1).1
  rw [hb g hlt, h1]
  intro e'
  rcases hown.2 with ⟨hv, _⟩ | ⟨g', cap, cur, hv, _, hh, _⟩
  · rw [hv] at e'; simp [Value.ownBlock] at e'
  · rw [hv] at e'
    obtain rfl : g' = g := by simpa [Value.ownBlock] using e'
    rw [h1] at hh
    simp only [Option.some.injEq, Obj.cells.injEq] at hh
    exact hf hh.2.2
theorem check_any (B b : Nat) (bs : List Value) (w : World) (h : Lib.IsBuilder 79 5 B b bs w) :
    Calls Tryz.prog 106 #[.pointer (some ⟨b, 0, none⟩)] w fun e w' => e = .returned (.tuple #[]) ∧ Lib.BuilderAt 79 5 B b (.pointer (some ⟨b, 0, none⟩)) bs w' ∧ Below B w w' ∧ Froz w w' := by
  rcases h with h | h
  · refine (check_fresh b w h.cell0 h.shape h.frozen0).mono ?_
    rintro e w' ⟨rfl, rfl⟩
    have h2 := h
    obtain ⟨_, v, hbk, _⟩ := h2
    exact ⟨rfl, h.used _, (Below.refl B w).setCell (p := ⟨b, 0, none⟩) h.1 _, (Froz.refl w).setCell hbk _⟩
  · refine (check_used b w h.cell0).mono ?_
    rintro e w' ⟨rfl, rfl⟩
    exact ⟨rfl, h, Below.refl B _, Froz.refl _⟩
/-- A builder holds bytes. -/
def Bld (w : World) (B b : Nat) (l : List UInt8) : Prop := Lib.IsBuilder 79 5 B b (Lib.byteCells l) w ∧ B ≤ w.heap.size
theorem info_byte : ∃ i, Tryz.prog.info? 5 = some i ∧ i.zero = some (.int .u8 0) ∧ i.size = 1 ∧ i.bytes = 1 := info_parts (by kernel_rfl)
theorem put_bytes {w : World} {ad : Addr} {p : Option Addr} {n c : Nat} {u : Value} (hc : w.cell? ad = some u) (hf : w.frozen? ad = false) : (storeVar 68 ad (.slice p n c)).run Tryz.prog w = .ok () (w.setCell ad (.slice p n c)) := by
  simp [storeVar, go_sem, hc, hf]
set_option maxHeartbeats 1000000 in
set_option maxRecDepth 100000 in
theorem writeByte_any {B b : Nat} {l : List UInt8} {w : World} (h : Bld w B b l) (c : UInt8) (hlen : l.length + 1 ≤ 140737488355328) :
    Calls Tryz.prog 74 #[.pointer (some ⟨b, 0, none⟩), .int .u8 c.toNat] w fun e w' => e = .returned .nilIface ∧ Bld w' B b (l ++ [c]) ∧ Below B w w' ∧ Froz w w' := by
  obtain ⟨i0, hi, hz0, hz1, hz2⟩ := info_byte
  have hBw := h.2
  go_enter Tryz.func74, Tryz.ntmps74
  go_wp2_with (go_at_call 106; refine (check_any B b _ _ h.1).mono ?_)
  rintro e w1 ⟨rfl, h1, hb1, hfz1⟩
  obtain ⟨hB, v, hbk, hown, hne⟩ := h1
  rw [Lib.byteCells_length] at hown
  have c0 : w1.cell? ⟨b, 0, none⟩ = some (.pointer (some ⟨b, 0, none⟩)) := by rw [Lib.cell_of_heap hbk]; rfl
  have c1 : w1.cell? ⟨b, 1, none⟩ = some v := by rw [Lib.cell_of_heap hbk]; rfl
  go_wp2_with (at_builtin; refine wpList_append_own _ rfl _ _ 68 rfl B 5 i0 (.int .u8 0) 1 1 Tryz.underlying68 hi hz0 hz1 hz2 rfl (by decide) _ _ _ rfl (hown.alloc _) ⟨w1.heap.size, 0, none⟩ 1 1 [.int .u8 c.toNat] rfl rfl ?c1 ?c2 ?c3 ?c4 ?c5 ?_)
  case c1 =>
    intro j u hj
    match j, hj with
    | 0, hj => simp at hj; subst hj; simp [Addr.add]
  case c2 => intro u hu; simp at hu; subst hu; rfl
  case c3 => unfold maxLen; omega
  case c4 => omega
  case c5 => have := hb1.size; simp; omega
  intro v' w2 hown' hgrow _
  have hlt : b < w1.heap.size := (Array.getElem?_eq_some_iff.1 hbk).1
  have hb2 : w2.heap[b]? = some (.cells #[.pointer (some ⟨b, 0, none⟩), v] 79 (0, 0)) := by
    rw [hgrow.block b (by simp; omega) (fun e => hne e.symm), Lib.alloc_old w1 _ b hlt]
    exact hbk
  have d0 : w2.cell? ⟨b, 0, none⟩ = some (.pointer (some ⟨b, 0, none⟩)) := by rw [Lib.cell_of_heap hb2]; rfl
  have d1 : w2.cell? ⟨b, 1, none⟩ = some v := by rw [Lib.cell_of_heap hb2]; rfl
  have f1 : w2.frozen? ⟨b, 1, none⟩ = false := Lib.frozen_of_heap hb2 1
  obtain ⟨ao, n', cap, rfl⟩ : ∃ ao n' cap, v' = .slice ao n' cap := by
    rcases hown'.2 with ⟨hv, _⟩ | ⟨g, cap, cur, hv, _⟩
    · exact ⟨_, _, _, hv⟩
    · exact ⟨_, _, _, hv⟩
  go_wp2
  go_ret
  have hB2 := (hb1.alloc (by have := hb1.size; omega) (.cells #[.int .u8 c.toNat] 5)).grown hgrow (by have := hb1.size; simp; omega) (fun k hk => (hown.lt k hk).1)
  refine ⟨rfl, ⟨.inr (Lib.BuilderAt.put (T := 79) (e := 5) hB hb2 (bs' := Lib.byteCells (l ++ [c])) (by rw [Lib.byteCells_append, List.length_append, Lib.byteCells_length]; exact hown') (by decide)), ?_⟩, ?_⟩
  · have := hB2.size; simp at *; omega
  · refine ⟨hB2.setCell (p := ⟨b, 1, none⟩) hB _, ?_⟩
    refine Froz.setCell ?_ hb2 _
    exact (hfz1.alloc (.cells #[.int .u8 c.toNat] 5)).grown (hown.alloc _) fun k hk hk2 => hgrow.block k hk fun e => hk2 e.symm
set_option maxHeartbeats 1000000 in
set_option maxRecDepth 100000 in
theorem writeString_any {B b : Nat} {l : List UInt8} {w : World} (h : Bld w B b l) (s : List UInt8) (hlen : l.length + s.length ≤ 140737488355328) :
    Calls Tryz.prog 76 #[.pointer (some ⟨b, 0, none⟩), .string (strB s)] w fun e w' => (∃ v, e = .returned v) ∧ Bld w' B b (l ++ s) ∧ Below B w w' ∧ Froz w w' := by
  obtain ⟨i0, hi, hz0, hz1, hz2⟩ := info_byte
  have hBw := h.2
  go_enter Tryz.func76, Tryz.ntmps76
  go_wp2_with (go_at_call 106; refine (check_any B b _ _ h.1).mono ?_)
  rintro e w1 ⟨rfl, h1, hb1, hfz1⟩
  obtain ⟨hB, v, hbk, hown, hne⟩ := h1
  have c0 : w1.cell? ⟨b, 0, none⟩ = some (.pointer (some ⟨b, 0, none⟩)) := by rw [Lib.cell_of_heap hbk]; rfl
  have c1 : w1.cell? ⟨b, 1, none⟩ = some v := by rw [Lib.cell_of_heap hbk]; rfl
  have hl0 : (Lib.byteCells l).length = l.length := Lib.byteCells_length l
  have hs0 : (strB s).size = s.length := rfl
  go_wp2_with (at_builtin; refine Lib.wpList_append_own_string _ rfl _ _ 68 9 rfl B 5 i0 Tryz.underlying68 Tryz.underlying9 hi hz0 hz1 hz2 _ _ _ rfl hown (strB s) rfl ?c3 ?c4 ?c5 ?_)
  case c3 => unfold maxLen; omega
  case c4 => omega
  case c5 => have := hb1.size; omega
  intro v' w2 hown' hgrow _
  have hlt : b < w1.heap.size := (Array.getElem?_eq_some_iff.1 hbk).1
  have hb2 : w2.heap[b]? = some (.cells #[.pointer (some ⟨b, 0, none⟩), v] 79 (0, 0)) := by
    rw [hgrow.block b hlt (fun e => hne e.symm)]
    exact hbk
  have d0 : w2.cell? ⟨b, 0, none⟩ = some (.pointer (some ⟨b, 0, none⟩)) := by rw [Lib.cell_of_heap hb2]; rfl
  have d1 : w2.cell? ⟨b, 1, none⟩ = some v := by rw [Lib.cell_of_heap hb2]; rfl
  have f1 : w2.frozen? ⟨b, 1, none⟩ = false := Lib.frozen_of_heap hb2 1
  obtain ⟨ao, n', cap, rfl⟩ : ∃ ao n' cap, v' = .slice ao n' cap := by
    rcases hown'.2 with ⟨hv, _⟩ | ⟨g, cap, cur, hv, _⟩
    · exact ⟨_, _, _, hv⟩
    · exact ⟨_, _, _, hv⟩
  go_wp2
  go_ret2
  have hB2 := hb1.grown hgrow (by have := hb1.size; omega) (fun k hk => (hown.lt k hk).1)
  refine ⟨⟨_, rfl⟩, ⟨.inr (Lib.BuilderAt.put (T := 79) (e := 5) hB hb2 (bs' := Lib.byteCells (l ++ s)) (by rw [Lib.byteCells_append, List.length_append]; simpa [Lib.strCells_eq, strB, Lib.byteCells_length] using hown') (by decide)), ?_⟩, ?_⟩
  · have := hB2.size; simp at *; omega
  · refine ⟨hB2.setCell (p := ⟨b, 1, none⟩) hB _, ?_⟩
    refine Froz.setCell ?_ hb2 _
    exact hfz1.grown hown fun k hk hk2 => hgrow.block k hk fun e => hk2 e.symm
theorem string_of {B b : Nat} {l : List UInt8} {w : World} (h : Bld w B b l) : Calls Tryz.prog 77 #[.pointer (some ⟨b, 0, none⟩)] w fun e w' => e = .returned (.string (strB l)) ∧ Below B w w' := Tryz.Builder_String_any B b l w h.1 h.2
theorem Bld.new (w : World) : Bld (w.alloc (.cells #[.pointer none, .slice none 0 0] 79)) w.heap.size w.heap.size [] := ⟨Lib.fresh_isBuilder 79 5 w, by simp⟩
end Go.Proofs.YtnkaegdnjfpliaaGreatDoor

/-! value.plain, value.Name. -/
namespace Go.Proofs.YtnkaegdnjfpliaaGreatDoor
set_option linter.unusedSimpArgs false
set_option linter.unusedVariables false
open Go.RowKit

/-- Bytes out of a string, in a block of their own. -/
theorem bytes_of (s : List UInt8) (w : World) : ∃ c w1, (convert 9 68 (.string (strB s))).run Tryz.prog w = .ok (.slice (some ⟨w.heap.size, 0, none⟩) s.length c) w1 ∧ Below w.heap.size w w1 ∧ ∀ j (h : j < s.length), w1.cell? ⟨w.heap.size, j, none⟩ = some (.int .u8 (s[j].toNat : Int)) := by
  have h := run_bytes_of_string (P := Tryz.prog) w 9 68 5 (strB s) Tryz.underlying9 Tryz.underlying68 Tryz.underlying5
  refine ⟨_, _, h, ((Below.refl _ _).drew).alloc (Nat.le_refl _) _, fun j hj => ?_⟩
  have hn := heap_alloc_new w.drew (.cells (bytesRow (strB s) (grownCap w (strB s).size 0 5)) 5 ((bytesRow (strB s) (grownCap w (strB s).size 0 5)).size, (bytesRow (strB s) (grownCap w (strB s).size 0 5)).size + 1))
  exact cellOf hn (bytesRow_at (strB s) _ j hj)
/-- A byte with bit 5 set. -/
theorem bits_or32 (c : UInt8) : bits .or .u8 (c.toNat : Int) 32 = ((c ||| 32).toNat : Int) := by
  have : ∀ n : Fin 256, bits .or .u8 ((UInt8.ofNat n.val).toNat : Int) 32 = (((UInt8.ofNat n.val) ||| 32).toNat : Int) := by decide +kernel
  have h := this ⟨c.toNat, c.toNat_lt⟩
  rwa [UInt8.ofNat_toNat] at h
set_option maxRecDepth 100000 in
theorem letter_or : ∀ c : UInt8, ((decide ((97 : Nat) ≤ (c ||| 32).toNat) && decide ((c ||| 32).toNat ≤ 122)) || c == 95) = letterB c := by
  intro c
  have : ∀ n : Fin 256, ((decide ((97 : Nat) ≤ ((UInt8.ofNat n.val) ||| 32).toNat) && decide (((UInt8.ofNat n.val) ||| 32).toNat ≤ 122)) || (UInt8.ofNat n.val) == 95) = letterB (UInt8.ofNat n.val) := by decide
  have h := this ⟨c.toNat, c.toNat_lt⟩
  rwa [UInt8.ofNat_toNat] at h
theorem plainB_step {s : List UInt8} {j : Nat} (h : j < s.length) (hok : j = 0 ∨ plainB (s.take j) = true) : plainB (s.take (j + 1)) = (letterB s[j] || (decide (0 < j) && digitB s[j])) := by
  cases s with
  | nil => simp at h
  | cons c r =>
    cases j with
    | zero => simp [plainB]
    | succ j =>
      have hj : j < r.length := by simpa using h
      rcases hok with h0 | hok
      · omega
      · simp only [List.take_succ_cons, plainB, Bool.and_eq_true] at hok ⊢
        rw [List.take_succ_eq_append_getElem hj, List.all_append, hok.1, hok.2]
        simp
theorem plainB_take {s : List UInt8} (h : plainB s = true) {j : Nat} (hj : 0 < j) : plainB (s.take j) = true := by
  cases s with
  | nil => simp [plainB] at h
  | cons c r =>
    obtain ⟨i, rfl⟩ : ∃ i, j = i + 1 := ⟨j - 1, by omega⟩
    simp only [List.take_succ_cons, plainB, Bool.and_eq_true] at h ⊢
    refine ⟨h.1, ?_⟩
    rw [List.all_eq_true] at h ⊢
    exact fun x hx => h.2 x (List.mem_of_mem_take hx)
set_option maxRecDepth 100000 in
set_option maxHeartbeats 2000000 in
theorem plain_any (s : List UInt8) (hs : s.length ≤ 140737488355328) (w : World) : Calls Tryz.prog 78 #[.string (strB s)] w fun e w' => e = .returned (.bool (plainB s)) ∧ Below w.heap.size w w' := by
  have z1 : (s.length : Int) ≤ 140737488355328 := by omega
  generalize hP : plainB s = P
  obtain ⟨cc, w1, hcv, hb, hcells⟩ := bytes_of s w
  have HP := Lib.hid hP
  have HB := Lib.hid (And.intro hb hcells)
  have HC := Lib.hid hcv
  have hsz : (strB s).size = s.length := rfl
  clear hP hs hcv hb hcells
  go_enter Tryz.func78, Tryz.ntmps78
  go_wp2_with (refine wpList_run rfl (exec_convert rfl rfl HC.out) ?_)
  go_loopw [9] (fun i W => ∃ j : Nat, j ≤ s.length ∧ i = .int .i64 (j : Int) ∧ Hid (j = 0 ∨ plainB (s.take j) = true) ∧ w1 = W) (fun i _ => s.length - (intOf i).toNat)
  case atStart => exact ⟨0, Nat.zero_le _, rfl, Lib.hid (.inl rfl), rfl⟩
  case round =>
    obtain ⟨j, hj, rfl, HQ, rfl⟩ := hrel
    by_cases hlt : j < s.length
    · have hlt1 : j + 1 ≤ s.length := hlt
      have q0 := HB.out.2 j hlt
      have hst := plainB_step hlt HQ.out
      have hor := bits_or32 s[j]
      rw [← letter_or] at hst
      have h95 : (s[j] == 95) = decide (s[j].toNat = 95) := by
        rw [Bool.eq_iff_iff, beq_iff_eq, decide_eq_true_iff]
        exact ⟨fun h => by rw [h]; rfl, fun h => UInt8.toNat_inj.1 (by rw [h]; rfl)⟩
      rw [h95] at hst
      unfold digitB at hst
      generalize (s[j] ||| 32).toNat = X at *
      generalize s[j].toNat = c at *
      clear h95
      by_cases hx : 97 ≤ X ∧ X ≤ 122
      · have e1 : decide ((97 : Int) ≤ (X : Int)) = true := by simp; omega
        have e2 : decide ((X : Int) ≤ (122 : Int)) = true := by simp; omega
        rw [show decide (97 ≤ X) = true by simp [hx.1], show decide (X ≤ 122) = true by simp [hx.2]] at hst
        simp only [Bool.and_self, Bool.true_or] at hst
        clear hx
        have HS := Lib.hid hst
        clear hst HQ
        go_wp2
        go_roundw
        case rel => exact ⟨j + 1, hlt1, by go_num, Lib.hid (.inr HS.out), trivial⟩
        case measure => simp [intOf]; omega
      · have hxf : (decide (97 ≤ X) && decide (X ≤ 122)) = false := by
          rw [Bool.and_eq_false_iff, decide_eq_false_iff_not, decide_eq_false_iff_not]; omega
        by_cases h97 : 97 ≤ X
        · have e1 : decide ((97 : Int) ≤ (X : Int)) = true := by rw [decide_eq_true_iff]; omega
          have e2 : decide ((X : Int) ≤ (122 : Int)) = false := by rw [decide_eq_false_iff_not]; omega
          clear hx h97
          by_cases h9 : c = 95
          · subst h9
            have hst : plainB (s.take (j + 1)) = true := by rw [hst]; simp
            have HS := Lib.hid hst
            clear hst HQ
            go_wp2
            go_roundw
            case rel => exact ⟨j + 1, hlt1, by go_num, Lib.hid (.inr HS.out), trivial⟩
            case measure => simp [intOf]; omega
          · have d9 : ((c : Int) == 95) = false := by rw [beq_eq_false_iff_ne]; omega
            by_cases j0 : 0 < j
            · have j1 : ((j : Int) == 0) = false := by rw [beq_eq_false_iff_ne]; omega
              by_cases h48 : 48 ≤ c
              · have f1 : decide ((c : Int) < 48) = false := by rw [decide_eq_false_iff_not]; omega
                by_cases h57 : c ≤ 57
                · have f2 : decide ((57 : Int) < (c : Int)) = false := by rw [decide_eq_false_iff_not]; omega
                  have hst : plainB (s.take (j + 1)) = true := by rw [hst]; simp [j0, h48, h57]
                  have HS := Lib.hid hst
                  clear hst HQ
                  go_wp2
                  go_roundw
                  case rel => exact ⟨j + 1, hlt1, by go_num, Lib.hid (.inr HS.out), trivial⟩
                  case measure => simp [intOf]; omega
                · have f2 : decide ((57 : Int) < (c : Int)) = true := by rw [decide_eq_true_iff]; omega
                  have hst : plainB (s.take (j + 1)) = false := by rw [hst, hxf]; simp [h9, h57]
                  have hPf : P = false := by
                    cases hp : P with
                    | false => rfl
                    | true =>
                      have := plainB_take (HP.out.trans hp) (j := j + 1) (by omega)
                      rw [hst] at this; cases this
                  have HN := Lib.hid hPf
                  clear hPf hst HQ
                  go_wp2
                  go_ret
                  exact ⟨ret_bool HN.out.symm, HB.out.1⟩
              · have f1 : decide ((c : Int) < 48) = true := by rw [decide_eq_true_iff]; omega
                have hst : plainB (s.take (j + 1)) = false := by rw [hst, hxf]; simp [h9, h48]
                have hPf : P = false := by
                  cases hp : P with
                  | false => rfl
                  | true =>
                    have := plainB_take (HP.out.trans hp) (j := j + 1) (by omega)
                    rw [hst] at this; cases this
                have HN := Lib.hid hPf
                clear hPf hst HQ
                go_wp2
                go_ret
                exact ⟨ret_bool HN.out.symm, HB.out.1⟩
            · have j1 : ((j : Int) == 0) = true := by rw [beq_iff_eq]; omega
              have hst : plainB (s.take (j + 1)) = false := by rw [hst, hxf]; simp [h9, j0]
              have hPf : P = false := by
                cases hp : P with
                | false => rfl
                | true =>
                  have := plainB_take (HP.out.trans hp) (j := j + 1) (by omega)
                  rw [hst] at this; cases this
              have HN := Lib.hid hPf
              clear hPf hst HQ
              go_wp2
              go_ret
              exact ⟨ret_bool HN.out.symm, HB.out.1⟩
        · have e1 : decide ((97 : Int) ≤ (X : Int)) = false := by rw [decide_eq_false_iff_not]; omega
          clear hx h97
          by_cases h9 : c = 95
          · subst h9
            have hst : plainB (s.take (j + 1)) = true := by rw [hst]; simp
            have HS := Lib.hid hst
            clear hst HQ
            go_wp2
            go_roundw
            case rel => exact ⟨j + 1, hlt1, by go_num, Lib.hid (.inr HS.out), trivial⟩
            case measure => simp [intOf]; omega
          · have d9 : ((c : Int) == 95) = false := by rw [beq_eq_false_iff_ne]; omega
            by_cases j0 : 0 < j
            · have j1 : ((j : Int) == 0) = false := by rw [beq_eq_false_iff_ne]; omega
              by_cases h48 : 48 ≤ c
              · have f1 : decide ((c : Int) < 48) = false := by rw [decide_eq_false_iff_not]; omega
                by_cases h57 : c ≤ 57
                · have f2 : decide ((57 : Int) < (c : Int)) = false := by rw [decide_eq_false_iff_not]; omega
                  have hst : plainB (s.take (j + 1)) = true := by rw [hst]; simp [j0, h48, h57]
                  have HS := Lib.hid hst
                  clear hst HQ
                  go_wp2
                  go_roundw
                  case rel => exact ⟨j + 1, hlt1, by go_num, Lib.hid (.inr HS.out), trivial⟩
                  case measure => simp [intOf]; omega
                · have f2 : decide ((57 : Int) < (c : Int)) = true := by rw [decide_eq_true_iff]; omega
                  have hst : plainB (s.take (j + 1)) = false := by rw [hst, hxf]; simp [h9, h57]
                  have hPf : P = false := by
                    cases hp : P with
                    | false => rfl
                    | true =>
                      have := plainB_take (HP.out.trans hp) (j := j + 1) (by omega)
                      rw [hst] at this; cases this
                  have HN := Lib.hid hPf
                  clear hPf hst HQ
                  go_wp2
                  go_ret
                  exact ⟨ret_bool HN.out.symm, HB.out.1⟩
              · have f1 : decide ((c : Int) < 48) = true := by rw [decide_eq_true_iff]; omega
                have hst : plainB (s.take (j + 1)) = false := by rw [hst, hxf]; simp [h9, h48]
                have hPf : P = false := by
                  cases hp : P with
                  | false => rfl
                  | true =>
                    have := plainB_take (HP.out.trans hp) (j := j + 1) (by omega)
                    rw [hst] at this; cases this
                have HN := Lib.hid hPf
                clear hPf hst HQ
                go_wp2
                go_ret
                exact ⟨ret_bool HN.out.symm, HB.out.1⟩
            · have j1 : ((j : Int) == 0) = true := by rw [beq_iff_eq]; omega
              have hst : plainB (s.take (j + 1)) = false := by rw [hst, hxf]; simp [h9, j0]
              have hPf : P = false := by
                cases hp : P with
                | false => rfl
                | true =>
                  have := plainB_take (HP.out.trans hp) (j := j + 1) (by omega)
                  rw [hst] at this; cases this
              have HN := Lib.hid hPf
              clear hPf hst HQ
              go_wp2
              go_ret
              exact ⟨ret_bool HN.out.symm, HB.out.1⟩
    · obtain rfl : j = s.length := by omega
      have hfin : decide (s ≠ []) = P := by
        have h := HQ.out
        rw [List.take_length] at h
        rw [← HP.out]
        cases s with
        | nil => rfl
        | cons c r =>
          rcases h with h | h
          · simp at h
          · rw [h]; simp
      have HF := Lib.hid hfin
      clear hfin HQ
      go_wp2_with (refine wpList_run (v := .bool (decide (s ≠ []))) rfl (exec_bins rfl rfl rfl (run_neStr _ _ s [] _)) ?_)
      go_ret
      exact ⟨ret_bool (by rw [← HF.out]; simp), HB.out.1⟩
theorem replaceAll_any {w : World} (hE : Env w) (s : List UInt8) (hs : s.length ≤ 2000000) : Calls Tryz.prog 79 #[.string (strB s), .string (strB [96]), .string (strB [96, 96])] w fun e w' => e = .returned (.string (strB (s.flatMap tickB))) ∧ Below w.heap.size w w' := by
  obtain ⟨m, hm⟩ := hE.len
  have h := Tryz.strings_ReplaceAll (strB s) (strB [96]) (strB [96, 96]) m w (by rw [strB_size]; omega) hm (by decide) (by
    have hc : Lib.countB (strB s) (strB [96]) = s.count 96 := Lib.count_one 96 s
    have hl : s.count 96 ≤ s.length := List.count_le_length
    rw [hc, strB_size, strB_size]
    simp only [List.length_cons, List.length_nil]
    omega)
  refine h.mono ?_
  rintro e w' ⟨rfl, hb⟩
  refine ⟨ret_str ?_, hb⟩
  show strB (Lib.replaceAll s [96] [96, 96]) = _
  rw [replaceAll_tick]
theorem tick_len (s : List UInt8) : (s.flatMap tickB).length ≤ 2 * s.length := by
  induction s with
  | nil => simp
  | cons a r ih =>
    rw [List.flatMap_cons, List.length_append, List.length_cons]
    have : (tickB a).length ≤ 2 := by unfold tickB; split <;> simp
    omega
/-- What Name tells. -/
def nameF (s : List UInt8) : List UInt8 := if Lib.validD s then nameB s else []
set_option maxRecDepth 100000 in
set_option maxHeartbeats 2000000 in
theorem name_any {w : World} (hE : Env w) (s : List UInt8) (hs : s.length ≤ 2000000) : Calls Tryz.prog 35 #[.string (strB s)] w fun e w' => e = .returned (.string (strB (nameF s))) ∧ Below w.heap.size w w' := by
  have hv := valid_any hE s (by omega)
  have HR := Lib.hid (show nameF s = if Lib.validD s then nameB s else [] from rfl)
  generalize nameF s = R at *
  generalize Lib.validD s = vd at *
  have HV := Lib.hid hv
  have HP := Lib.hid (fun (W : World) => plain_any s (by omega) W)
  have HA := Lib.hid (fun (W : World) (hb : Below w.heap.size w W) => replaceAll_any (hE.b hb) s hs)
  clear hv hE
  cases vd with
  | false =>
    go_enter Tryz.func35, Tryz.ntmps35
    go_wp2_with (go_at_call 73; refine HV.out.mono ?_; rintro e w1 ⟨rfl, hb1⟩; have HB := Lib.hid hb1; clear hb1)
    go_ret
    exact ⟨ret_str (by rw [HR.out]; rfl), HB.out⟩
  | true =>
    have HN := Lib.hid (show R = if plainB s then s else 96 :: (s.flatMap tickB ++ [96]) from HR.out)
    clear HR
    generalize plainB s = pb at *
    cases pb with
    | true =>
      go_enter Tryz.func35, Tryz.ntmps35
      go_wp2_with (first
        | (go_at_call 73; refine HV.out.mono ?_; rintro e w1 ⟨rfl, hb1⟩; have HB := Lib.hid hb1; clear hb1)
        | (go_at_call 78; refine (HP.out _).mono ?_; rintro e w2 ⟨rfl, hb2⟩; have HB2 := Lib.hid (below_trans HB.out hb2); clear hb2))
      go_ret
      exact ⟨ret_str (by rw [HN.out]; rfl), HB2.out⟩
    | false =>
      have hl : (s.flatMap tickB).length ≤ 4000000 := by have := tick_len s; omega
      have z1 : ((s.flatMap tickB).length : Int) ≤ 4000000 := by omega
      have hsz : (strB (s.flatMap tickB)).size = (s.flatMap tickB).length := rfl
      generalize s.flatMap tickB = ss at *
      go_enter Tryz.func35, Tryz.ntmps35
      go_wp2_with (first
        | (go_at_call 73; refine HV.out.mono ?_; rintro e w1 ⟨rfl, hb1⟩; have HB := Lib.hid hb1; clear hb1)
        | (go_at_call 78; refine (HP.out _).mono ?_; rintro e w2 ⟨rfl, hb2⟩; have HB2 := Lib.hid (below_trans HB.out hb2); clear hb2)
        | (go_at_call 79; refine (HA.out _ HB2.out).mono ?_; rintro e w3 ⟨rfl, hb3⟩; have HB3 := Lib.hid (below_trans HB2.out hb3); clear hb3))
      go_ret
      refine ⟨ret_str ?_, HB3.out⟩
      rw [HN.out, if_neg (by simp)]
      show strB [96] ++ strB ss ++ strB [96] = _
      rw [strB_append, strB_append]
      rfl
end Go.Proofs.YtnkaegdnjfpliaaGreatDoor

/-! value.Quote. Printed by gen_quote.py. -/
namespace Go.Proofs.YtnkaegdnjfpliaaGreatDoor
set_option linter.unusedSimpArgs false
set_option linter.unusedVariables false
open Go.RowKit

/-- What Quote tells. -/
def quoteF (s : List UInt8) : List UInt8 := if Lib.validD s then quoteB s else []
theorem esc_len (s : List UInt8) : (s.flatMap escB).length ≤ 6 * s.length := by
  induction s with
  | nil => simp
  | cons a r ih =>
    rw [List.flatMap_cons, List.length_append, List.length_cons]
    have : (escB a).length ≤ 6 := by unfold escB; repeat (first | (split; simp) | simp)
    omega
theorem quote_step {s : List UInt8} {j : Nat} (h : j < s.length) : 39 :: (s.take (j + 1)).flatMap escB = (39 :: (s.take j).flatMap escB) ++ escB s[j] := by
  rw [List.take_succ_eq_append_getElem h, List.flatMap_append]; simp
theorem quote_len (s : List UInt8) (j : Nat) : (39 :: (s.take j).flatMap escB).length ≤ 1 + 6 * s.length := by
  have h1 := esc_len (s.take j)
  have h2 : (s.take j).length ≤ s.length := List.length_take_le' _ _
  rw [List.length_cons]
  omega
/-- Bytes out of a string: the block. -/
theorem bytes_blk (s : List UInt8) (w : World) : ∃ c w1 cs fr, (convert 9 68 (.string (strB s))).run Tryz.prog w = .ok (.slice (some ⟨w.heap.size, 0, none⟩) s.length c) w1 ∧ Below w.heap.size w w1 ∧ w1.heap[w.heap.size]? = some (.cells cs 5 fr) ∧ fr ≠ (0, 0) ∧ ∀ j (h : j < s.length), cs[j]? = some (.int .u8 (s[j].toNat : Int)) := by
  have h := run_bytes_of_string (P := Tryz.prog) w 9 68 5 (strB s) Tryz.underlying9 Tryz.underlying68 Tryz.underlying5
  have hn := heap_alloc_new w.drew (.cells (bytesRow (strB s) (grownCap w (strB s).size 0 5)) 5 ((bytesRow (strB s) (grownCap w (strB s).size 0 5)).size, (bytesRow (strB s) (grownCap w (strB s).size 0 5)).size + 1))
  exact ⟨_, _, _, _, h, ((Below.refl _ _).drew).alloc (Nat.le_refl _) _, hn, by simp, fun j hj => bytesRow_at (strB s) _ j hj⟩
theorem Bld.kept {w w' : World} {B b : Nat} {l : List UInt8} (h : Bld w B b l) (g : Below w.heap.size w w') : Bld w' B b l := by
  obtain ⟨h, hB⟩ := h
  refine ⟨?_, Nat.le_trans hB g.size⟩
  rcases h with ⟨h1, v, hb, hown, hne⟩ | ⟨h1, v, hb, hown, hne⟩
  · exact .inl ⟨h1, v, belowBlk g (Array.getElem?_eq_some_iff.1 hb).1 hb, ownsRow_heap hown (fun k hk => g.block k (hown.lt k hk).2), hne⟩
  · exact .inr ⟨h1, v, belowBlk g (Array.getElem?_eq_some_iff.1 hb).1 hb, ownsRow_heap hown (fun k hk => g.block k (hown.lt k hk).2), hne⟩
theorem writeByte39 {B b : Nat} {l : List UInt8} {w : World} (h : Bld w B b l) (hlen : l.length + 1 ≤ 140737488355328) :
    Calls Tryz.prog 74 #[.pointer (some ⟨b, 0, none⟩), .int .u8 39] w fun e w' => e = .returned .nilIface ∧ Bld w' B b (l ++ [39]) ∧ Below B w w' ∧ Froz w w' := writeByte_any h 39 hlen
theorem index_quote (w : World) (c : UInt8) (n : Int) (hn : n = (c.toNat : Int)) (K : Int) (hK : Lib.indexByte [39, 92, 10, 9, 13] c = K) :
    Calls Tryz.prog 75 #[.string (strB [39, 92, 10, 9, 13]), .int .u8 n] w fun e w' => e = .returned (.int .i64 K) ∧ w' = w := by
  subst hn
  have h := Tryz.strings_IndexByte (strB [39, 92, 10, 9, 13]) (c.toNat : Int) w
  have e : (c.toNat : Int).toNat.toUInt8 = c := by rw [Int.toNat_natCast]; exact UInt8.ofNat_toNat
  rw [e, show (strB [39, 92, 10, 9, 13]).data.toList = [39, 92, 10, 9, 13] from rfl, hK] at h
  exact h
theorem exec_bin {P : Program} {w : World} {a : Act} {o : Oper} {op : BinOp} {t t' : TypeId} {x y : Operand} {vx vy v : Value} (ho : o.op = .binOp op t x y t') (hx : a.eval x = vx) (hy : a.eval y = vy) (hg : eqGuard op t x y vx vy = pure ())
    (hr : (binOp op t vx vy).run P w = .ok v w) : (execOp a.eval o).run P w = .ok (.value v) w := by
  unfold execOp; rw [ho]; simp only [hx, hy, hg, Sem.run_bind, Sem.run_pure, Result.andThen_ok, hr]
theorem lt16 {h : Nat} (hh : h < 16) : h = 0 ∨ h = 1 ∨ h = 2 ∨ h = 3 ∨ h = 4 ∨ h = 5 ∨ h = 6 ∨ h = 7 ∨ h = 8 ∨ h = 9 ∨ h = 10 ∨ h = 11 ∨ h = 12 ∨ h = 13 ∨ h = 14 ∨ h = 15 := by omega
theorem hex_slice {h : Nat} (hh : h < 16) (w : World) : (Instr.sliceAt 9 (.string (strB [48, 49, 50, 51, 52, 53, 54, 55, 56, 57, 97, 98, 99, 100, 101, 102])) (some (.int .u8 (h : Int))) (some (.int .u8 ((h : Int) + 1))) none).run Tryz.prog w = .ok (.string (strB [hexB h])) w := by
  have hz : (strB [48, 49, 50, 51, 52, 53, 54, 55, 56, 57, 97, 98, 99, 100, 101, 102]).size = 16 := rfl
  rw [run_sliceAt_string _ _ _ _ _ _ Tryz.underlying9, run_slice_string_if _ _ _ _ _ _ _ Tryz.underlying9]
  rcases lt16 hh with rfl | rfl | rfl | rfl | rfl | rfl | rfl | rfl | rfl | rfl | rfl | rfl | rfl | rfl | rfl | rfl <;> rfl
theorem hex_add {h : Nat} (hh : h < 16) (w : World) : (binOp .add 5 (.int .u8 (h : Int)) (.int .u8 1)).run Tryz.prog w = .ok (.int .u8 ((h : Int) + 1)) w := by
  rcases lt16 hh with rfl | rfl | rfl | rfl | rfl | rfl | rfl | rfl | rfl | rfl | rfl | rfl | rfl | rfl | rfl | rfl <;> rfl
theorem hex_hi (c : Nat) (w : World) : (binOp .shr 5 (.int .u8 (c : Int)) (.int .u64 4)).run Tryz.prog w = .ok (.int .u8 ((c / 16 : Nat) : Int)) w := by
  simp [go_sem]
set_option maxRecDepth 100000 in
theorem hex_lo {c : Nat} (hc : c < 256) (w : World) : (binOp .and 5 (.int .u8 (c : Int)) (.int .u8 15)).run Tryz.prog w = .ok (.int .u8 ((c % 16 : Nat) : Int)) w := by
  have h : bits .and .u8 (c : Int) 15 = ((c % 16 : Nat) : Int) := by
    have : ∀ n : Fin 256, bits .and .u8 ((n.val : Nat) : Int) 15 = ((n.val % 16 : Nat) : Int) := by decide +kernel
    exact this ⟨c, hc⟩
  rw [← h]
  simp [go_sem]
theorem add_str (a b : List UInt8) (hl : a.length + b.length ≤ 1000000) (w : World) : (binOp .add 9 (.string (strB a)) (.string (strB b))).run Tryz.prog w = .ok (.string (strB (a ++ b))) w := by
  have h1 : (strB a).size = a.length := rfl
  have h2 : (strB b).size = b.length := rfl
  have h3 : (strB a).size + (strB b).size ≤ 9223372036854775807 := by omega
  rw [← strB_append]
  simp [go_sem, h3]
/-- What lies about the loop of Quote. -/
structure QInv (w : World) (B b g : Nat) (cs : Array Value) (fr : Nat × Nat) (l : List UInt8) (W : World) : Prop where
  bld : Bld W B b l
  below : Below w.heap.size w W
  le : w.heap.size ≤ B
  blk : W.heap[g]? = some (.cells cs 5 fr)
theorem QInv.next {w : World} {B b g : Nat} {cs : Array Value} {fr : Nat × Nat} {l l' : List UInt8} {W W' : World} (h : QInv w B b g cs fr l W) (hf : fr ≠ (0, 0)) (h1 : Bld W' B b l') (h2 : Below B W W') (h3 : Froz W W') : QInv w B b g cs fr l' W' :=
  ⟨h1, h.below.trans (h2.mono h.le), h.le, h3 _ _ _ _ hf h.blk⟩
theorem QInv.drew {w : World} {B b g : Nat} {cs : Array Value} {fr : Nat × Nat} {l : List UInt8} {W : World} (h : QInv w B b g cs fr l W) : QInv w B b g cs fr l W.drew :=
  ⟨h.bld, h.below.drew, h.le, h.blk⟩
set_option maxRecDepth 100000 in
set_option maxHeartbeats 8000000 in
theorem quote_any {w : World} (hE : Env w) (s : List UInt8) (hs : s.length ≤ 1099511627776) : Calls Tryz.prog 34 #[.string (strB s)] w fun e w' => e = .returned (.string (strB (quoteF s))) ∧ Below w.heap.size w w' := by
  have hv := valid_any hE s (by omega)
  have HR := Lib.hid (show quoteF s = if Lib.validD s then quoteB s else [] from rfl)
  generalize quoteF s = R at *
  generalize Lib.validD s = vd at *
  have HV := Lib.hid hv
  clear hv hE
  cases vd with
  | false =>
    go_enter Tryz.func34, Tryz.ntmps34
    go_wp2_with (go_at_call 73; refine HV.out.mono ?_; rintro e w1 ⟨rfl, hb1⟩; have HB := Lib.hid hb1; clear hb1)
    go_ret
    exact ⟨ret_str (by rw [HR.out]; rfl), HB.out⟩
  | true =>
    have HN := Lib.hid (show R = quoteB s from HR.out)
    clear HR
    have z1 : (s.length : Int) ≤ 140737488355328 := by omega
    have hsz : (strB s).size = s.length := rfl
    go_enter Tryz.func34, Tryz.ntmps34
    go_wp2_with (first
      | (go_at_call 73; refine HV.out.mono ?_; rintro e w1 ⟨rfl, hb1⟩; have HB := Lib.hid hb1; clear hb1)
      | (go_at_call 74
         (
           refine (writeByte39 (Bld.new _) (by simp)).mono ?_
           rintro e w2 ⟨rfl, h2, hb2, _⟩
           obtain ⟨cc, w3, cs, fr, hcv, hb3, hblk, hfr, hcs⟩ := bytes_blk s w2
           have hlt2 := h2.2
           have hQ : QInv w w1.heap.size w1.heap.size w2.heap.size cs fr (39 :: (s.take 0).flatMap escB) w3 := by
             refine ⟨?_, ?_, HB.out.size, hblk⟩
             · refine ⟨?_, Nat.le_trans hlt2 hb3.size⟩
               exact (h2.kept hb3).1
             · exact below_trans HB.out (((below_new _).trans hb2).trans (hb3.mono hlt2))
           have HC := Lib.hid hcv
           have HQ := Lib.hid (And.intro hQ (And.intro hfr hcs))
           generalize w1.heap.size = B at *
           generalize w2.heap.size = g at *
           clear hcv hb3 hblk hfr hcs hQ hlt2 h2 hb2 HB HV))
      | (refine wpList_run rfl (exec_convert rfl rfl HC.out) ?_))
    go_loopw [14] (fun i W => ∃ j : Nat, j ≤ s.length ∧ i = .int .i64 (j : Int) ∧ Hid (QInv w B B g cs fr (39 :: (s.take j).flatMap escB) W)) (fun i _ => s.length - (intOf i).toNat)
    case atStart => exact ⟨0, Nat.zero_le _, rfl, Lib.hid HQ.out.1⟩
    case round =>
      obtain ⟨j, hj, rfl, HJ⟩ := hrel
      by_cases hlt : j < s.length
      · have hlt1 : j + 1 ≤ s.length := hlt
        have q0 := cellOf HJ.out.blk (HQ.out.2.2 j hlt)
        have hst := quote_step hlt
        have hln := quote_len s j
        have hc256 : s[j].toNat < 256 := s[j].toNat_lt
        generalize 39 :: (s.take j).flatMap escB = L at *
        generalize s[j] = c at *
        have HS := Lib.hid (And.intro hst (show L.length ≤ 6600000000000 by omega))
        clear hst hln
        by_cases h5 : c = 39 ∨ c = 92 ∨ c = 10 ∨ c = 9 ∨ c = 13
        · rcases h5 with rfl | rfl | rfl | rfl | rfl
          · have q0 : wr.cell? ⟨g, j, none⟩ = some (.int .u8 39) := q0
            have HI := Lib.hid (fun (W : World) => index_quote W 39 39 rfl 0 (by decide))
            go_wp2_with (first
              | (go_at_call 75; refine (HI.out _).mono ?_; rintro e w4 ⟨rfl, rfl⟩)
              | (go_at_call 76
                 (
                   refine (writeString_any HJ.out.bld [92, 39] (by have := HS.out.2; simp; omega)).mono ?_
                   rintro e w5 ⟨⟨v5, rfl⟩, h5, hb5, hz5⟩
                   have HK := Lib.hid (HJ.out.next HQ.out.2.1 h5 hb5 hz5)
                   clear h5 hb5 hz5 HJ)))
            go_roundw
            case rel => exact ⟨j + 1, hlt1, by go_num, Lib.hid (by rw [HS.out.1]; exact HK.out)⟩
            case measure => simp [intOf]; omega
          · have q0 : wr.cell? ⟨g, j, none⟩ = some (.int .u8 92) := q0
            have HI := Lib.hid (fun (W : World) => index_quote W 92 92 rfl 1 (by decide))
            go_wp2_with (first
              | (go_at_call 75; refine (HI.out _).mono ?_; rintro e w4 ⟨rfl, rfl⟩)
              | (go_at_call 76
                 (
                   refine (writeString_any HJ.out.bld [92, 92] (by have := HS.out.2; simp; omega)).mono ?_
                   rintro e w5 ⟨⟨v5, rfl⟩, h5, hb5, hz5⟩
                   have HK := Lib.hid (HJ.out.next HQ.out.2.1 h5 hb5 hz5)
                   clear h5 hb5 hz5 HJ)))
            go_roundw
            case rel => exact ⟨j + 1, hlt1, by go_num, Lib.hid (by rw [HS.out.1]; exact HK.out)⟩
            case measure => simp [intOf]; omega
          · have q0 : wr.cell? ⟨g, j, none⟩ = some (.int .u8 10) := q0
            have HI := Lib.hid (fun (W : World) => index_quote W 10 10 rfl 2 (by decide))
            go_wp2_with (first
              | (go_at_call 75; refine (HI.out _).mono ?_; rintro e w4 ⟨rfl, rfl⟩)
              | (go_at_call 76
                 (
                   refine (writeString_any HJ.out.bld [92, 110] (by have := HS.out.2; simp; omega)).mono ?_
                   rintro e w5 ⟨⟨v5, rfl⟩, h5, hb5, hz5⟩
                   have HK := Lib.hid (HJ.out.next HQ.out.2.1 h5 hb5 hz5)
                   clear h5 hb5 hz5 HJ)))
            go_roundw
            case rel => exact ⟨j + 1, hlt1, by go_num, Lib.hid (by rw [HS.out.1]; exact HK.out)⟩
            case measure => simp [intOf]; omega
          · have q0 : wr.cell? ⟨g, j, none⟩ = some (.int .u8 9) := q0
            have HI := Lib.hid (fun (W : World) => index_quote W 9 9 rfl 3 (by decide))
            go_wp2_with (first
              | (go_at_call 75; refine (HI.out _).mono ?_; rintro e w4 ⟨rfl, rfl⟩)
              | (go_at_call 76
                 (
                   refine (writeString_any HJ.out.bld [92, 116] (by have := HS.out.2; simp; omega)).mono ?_
                   rintro e w5 ⟨⟨v5, rfl⟩, h5, hb5, hz5⟩
                   have HK := Lib.hid (HJ.out.next HQ.out.2.1 h5 hb5 hz5)
                   clear h5 hb5 hz5 HJ)))
            go_roundw
            case rel => exact ⟨j + 1, hlt1, by go_num, Lib.hid (by rw [HS.out.1]; exact HK.out)⟩
            case measure => simp [intOf]; omega
          · have q0 : wr.cell? ⟨g, j, none⟩ = some (.int .u8 13) := q0
            have HI := Lib.hid (fun (W : World) => index_quote W 13 13 rfl 4 (by decide))
            go_wp2_with (first
              | (go_at_call 75; refine (HI.out _).mono ?_; rintro e w4 ⟨rfl, rfl⟩)
              | (go_at_call 76
                 (
                   refine (writeString_any HJ.out.bld [92, 114] (by have := HS.out.2; simp; omega)).mono ?_
                   rintro e w5 ⟨⟨v5, rfl⟩, h5, hb5, hz5⟩
                   have HK := Lib.hid (HJ.out.next HQ.out.2.1 h5 hb5 hz5)
                   clear h5 hb5 hz5 HJ)))
            go_roundw
            case rel => exact ⟨j + 1, hlt1, by go_num, Lib.hid (by rw [HS.out.1]; exact HK.out)⟩
            case measure => simp [intOf]; omega
        · have hidx : Lib.indexByte [39, 92, 10, 9, 13] c = -1 := by
            have e1 : (39 == c) = false := by rw [beq_eq_false_iff_ne]; intro e; exact h5 (.inl e.symm)
            have e2 : (92 == c) = false := by rw [beq_eq_false_iff_ne]; intro e; exact h5 (.inr (.inl e.symm))
            have e3 : (10 == c) = false := by rw [beq_eq_false_iff_ne]; intro e; exact h5 (.inr (.inr (.inl e.symm)))
            have e4 : (9 == c) = false := by rw [beq_eq_false_iff_ne]; intro e; exact h5 (.inr (.inr (.inr (.inl e.symm))))
            have e5 : (13 == c) = false := by rw [beq_eq_false_iff_ne]; intro e; exact h5 (.inr (.inr (.inr (.inr e.symm))))
            simp [Lib.indexByte, e1, e2, e3, e4, e5]
          have hesc : escB c = if c.toNat < 32 ∨ c.toNat = 127 then [92, 117, 48, 48, hexB (c.toNat / 16), hexB (c.toNat % 16)] else [c] := by
            unfold escB
            rw [if_neg (fun e => h5 (.inl e)), if_neg (fun e => h5 (.inr (.inl e))), if_neg (fun e => h5 (.inr (.inr (.inl e)))), if_neg (fun e => h5 (.inr (.inr (.inr (.inl e))))), if_neg (fun e => h5 (.inr (.inr (.inr (.inr e)))))]
          have HI := Lib.hid (fun (W : World) => index_quote W c _ rfl (-1) hidx)
          clear h5 hidx
          by_cases hd : c.toNat < 32 ∨ c.toNat = 127
          · rw [if_pos hd] at hesc
            have HE := Lib.hid hesc
            obtain ⟨n, hn⟩ : ∃ n, c.toNat = n := ⟨_, rfl⟩
            rw [hn] at q0 hc256 HI hd HE
            clear hesc hn
            by_cases hd1 : n < 32
            · have d1 : decide ((n : Int) < 32) = true := by rw [decide_eq_true_iff]; omega
              clear hd hd1
              go_wp2_with (go_at_call 75; refine (HI.out _).mono ?_; rintro e w4 ⟨rfl, rfl⟩)
              have f1 := hex_hi n
              have f2 := hex_slice (h := n / 16) (by omega)
              have f3 := hex_add (h := n / 16) (by omega)
              have f4 := hex_lo (c := n) hc256
              have f5 := hex_slice (h := n % 16) (by omega)
              have f6 := hex_add (h := n % 16) (by omega)
              have hf := HQ.out.2.1
              have hU := HJ.out.drew
              refine plain_region_draws (fun W => QInv w B B g cs fr L W) (by kernel_rfl) hU (fun hU0 => ?_)
              refine take 0 38 (v := .int .u8 (n : Int)) rfl rfl (by kernel_rfl) (by kernel_rfl) (by kernel_rfl) rfl (fun W hW => exec_move rfl rfl) (by assumption) ?_
              simp only [Act.put, List.setIfInBounds_toArray, List.set_cons_zero, List.set_cons_succ]
              refine take 1 39 (v := .int .u8 ((n / 16 : Nat) : Int)) rfl rfl (by kernel_rfl) (by kernel_rfl) (by kernel_rfl) rfl (fun W hW => exec_bin rfl rfl rfl rfl (f1 W)) (by assumption) ?_
              simp only [Act.put, List.setIfInBounds_toArray, List.set_cons_zero, List.set_cons_succ]
              refine take 2 40 (v := .int .u8 (n : Int)) rfl rfl (by kernel_rfl) (by kernel_rfl) (by kernel_rfl) rfl (fun W hW => exec_move rfl rfl) (by assumption) ?_
              simp only [Act.put, List.setIfInBounds_toArray, List.set_cons_zero, List.set_cons_succ]
              refine take 3 41 (v := .int .u8 ((n / 16 : Nat) : Int)) rfl rfl (by kernel_rfl) (by kernel_rfl) (by kernel_rfl) rfl (fun W hW => exec_bin rfl rfl rfl rfl (f1 W)) (by assumption) ?_
              simp only [Act.put, List.setIfInBounds_toArray, List.set_cons_zero, List.set_cons_succ]
              refine take 4 42 (v := .int .u8 (((n / 16 : Nat) : Int) + 1)) rfl rfl (by kernel_rfl) (by kernel_rfl) (by kernel_rfl) rfl (fun W hW => exec_bin rfl rfl rfl rfl (f3 W)) (by assumption) ?_
              simp only [Act.put, List.setIfInBounds_toArray, List.set_cons_zero, List.set_cons_succ]
              refine take 5 43 (v := .string (strB [hexB (n / 16)])) rfl rfl (by kernel_rfl) (by kernel_rfl) (by kernel_rfl) rfl (fun W hW => exec_slice rfl rfl rfl rfl rfl (f2 W)) (by assumption) ?_
              simp only [Act.put, List.setIfInBounds_toArray, List.set_cons_zero, List.set_cons_succ]
              refine take 6 44 (v := .string (strB ([92, 117, 48, 48] ++ [hexB (n / 16)]))) rfl rfl (by kernel_rfl) (by kernel_rfl) (by kernel_rfl) rfl (fun W hW => exec_bin rfl rfl rfl rfl (add_str _ _ (by simp) W)) (by assumption) ?_
              simp only [Act.put, List.setIfInBounds_toArray, List.set_cons_zero, List.set_cons_succ]
              refine take 7 45 (v := .int .u8 (n : Int)) rfl rfl (by kernel_rfl) (by kernel_rfl) (by kernel_rfl) rfl (fun W hW => exec_move rfl rfl) (by assumption) ?_
              simp only [Act.put, List.setIfInBounds_toArray, List.set_cons_zero, List.set_cons_succ]
              refine take 8 46 (v := .int .u8 ((n % 16 : Nat) : Int)) rfl rfl (by kernel_rfl) (by kernel_rfl) (by kernel_rfl) rfl (fun W hW => exec_bin rfl rfl rfl rfl (f4 W)) (by assumption) ?_
              simp only [Act.put, List.setIfInBounds_toArray, List.set_cons_zero, List.set_cons_succ]
              refine take 9 47 (v := .int .u8 (n : Int)) rfl rfl (by kernel_rfl) (by kernel_rfl) (by kernel_rfl) rfl (fun W hW => exec_move rfl rfl) (by assumption) ?_
              simp only [Act.put, List.setIfInBounds_toArray, List.set_cons_zero, List.set_cons_succ]
              refine take 10 48 (v := .int .u8 ((n % 16 : Nat) : Int)) rfl rfl (by kernel_rfl) (by kernel_rfl) (by kernel_rfl) rfl (fun W hW => exec_bin rfl rfl rfl rfl (f4 W)) (by assumption) ?_
              simp only [Act.put, List.setIfInBounds_toArray, List.set_cons_zero, List.set_cons_succ]
              refine take 11 49 (v := .int .u8 (((n % 16 : Nat) : Int) + 1)) rfl rfl (by kernel_rfl) (by kernel_rfl) (by kernel_rfl) rfl (fun W hW => exec_bin rfl rfl rfl rfl (f6 W)) (by assumption) ?_
              simp only [Act.put, List.setIfInBounds_toArray, List.set_cons_zero, List.set_cons_succ]
              refine take 12 50 (v := .string (strB [hexB (n % 16)])) rfl rfl (by kernel_rfl) (by kernel_rfl) (by kernel_rfl) rfl (fun W hW => exec_slice rfl rfl rfl rfl rfl (f5 W)) (by assumption) ?_
              simp only [Act.put, List.setIfInBounds_toArray, List.set_cons_zero, List.set_cons_succ]
              refine take 13 51 (v := .string (strB ([92, 117, 48, 48] ++ [hexB (n / 16)] ++ [hexB (n % 16)]))) rfl rfl (by kernel_rfl) (by kernel_rfl) (by kernel_rfl) rfl (fun W hW => exec_bin rfl rfl rfl rfl (add_str _ _ (by simp) W)) (by assumption) ?_
              simp only [Act.put, List.setIfInBounds_toArray, List.set_cons_zero, List.set_cons_succ]
              refine onlyCall 14 52 rfl rfl (by kernel_rfl) rfl (exec_call [.pointer (some ⟨B, 0, none⟩), .string (strB ([92, 117, 48, 48] ++ [hexB (n / 16)] ++ [hexB (n % 16)]))] rfl rfl Tryz.func76 (by kernel_rfl) (by kernel_rfl)) ?_
              refine (writeString_any hU0.bld ([92, 117, 48, 48] ++ [hexB (n / 16)] ++ [hexB (n % 16)]) (by have := HS.out.2; simp; omega)).mono ?_
              rintro e w5 ⟨⟨v5, rfl⟩, h5, hb5, hz5⟩
              have hK := hU0.next hf h5 hb5 hz5
              clear h5 hb5 hz5
              refine ⟨_, rfl, .inl (by kernel_rfl), ?_⟩
              simp only [Act.put, List.setIfInBounds_toArray, List.set_cons_zero, List.set_cons_succ]
              refine done (by kernel_rfl) ?_ _
              have HK := Lib.hid hK
              clear hK hU hU0 hf f1 f2 f3 f4 f5 f6 HJ
              go_wp2
              go_roundw
              case rel => exact ⟨j + 1, hlt1, by go_num, Lib.hid (by rw [HS.out.1, HE.out]; exact HK.out)⟩
              case measure => simp [intOf]; omega
            · have d1 : decide ((n : Int) < 32) = false := by rw [decide_eq_false_iff_not]; omega
              have d2 : ((n : Int) == 127) = true := by rw [beq_iff_eq]; omega
              clear hd hd1
              go_wp2_with (go_at_call 75; refine (HI.out _).mono ?_; rintro e w4 ⟨rfl, rfl⟩)
              have f1 := hex_hi n
              have f2 := hex_slice (h := n / 16) (by omega)
              have f3 := hex_add (h := n / 16) (by omega)
              have f4 := hex_lo (c := n) hc256
              have f5 := hex_slice (h := n % 16) (by omega)
              have f6 := hex_add (h := n % 16) (by omega)
              have hf := HQ.out.2.1
              have hU := HJ.out.drew
              refine plain_region_draws (fun W => QInv w B B g cs fr L W) (by kernel_rfl) hU (fun hU0 => ?_)
              refine take 0 38 (v := .int .u8 (n : Int)) rfl rfl (by kernel_rfl) (by kernel_rfl) (by kernel_rfl) rfl (fun W hW => exec_move rfl rfl) (by assumption) ?_
              simp only [Act.put, List.setIfInBounds_toArray, List.set_cons_zero, List.set_cons_succ]
              refine take 1 39 (v := .int .u8 ((n / 16 : Nat) : Int)) rfl rfl (by kernel_rfl) (by kernel_rfl) (by kernel_rfl) rfl (fun W hW => exec_bin rfl rfl rfl rfl (f1 W)) (by assumption) ?_
              simp only [Act.put, List.setIfInBounds_toArray, List.set_cons_zero, List.set_cons_succ]
              refine take 2 40 (v := .int .u8 (n : Int)) rfl rfl (by kernel_rfl) (by kernel_rfl) (by kernel_rfl) rfl (fun W hW => exec_move rfl rfl) (by assumption) ?_
              simp only [Act.put, List.setIfInBounds_toArray, List.set_cons_zero, List.set_cons_succ]
              refine take 3 41 (v := .int .u8 ((n / 16 : Nat) : Int)) rfl rfl (by kernel_rfl) (by kernel_rfl) (by kernel_rfl) rfl (fun W hW => exec_bin rfl rfl rfl rfl (f1 W)) (by assumption) ?_
              simp only [Act.put, List.setIfInBounds_toArray, List.set_cons_zero, List.set_cons_succ]
              refine take 4 42 (v := .int .u8 (((n / 16 : Nat) : Int) + 1)) rfl rfl (by kernel_rfl) (by kernel_rfl) (by kernel_rfl) rfl (fun W hW => exec_bin rfl rfl rfl rfl (f3 W)) (by assumption) ?_
              simp only [Act.put, List.setIfInBounds_toArray, List.set_cons_zero, List.set_cons_succ]
              refine take 5 43 (v := .string (strB [hexB (n / 16)])) rfl rfl (by kernel_rfl) (by kernel_rfl) (by kernel_rfl) rfl (fun W hW => exec_slice rfl rfl rfl rfl rfl (f2 W)) (by assumption) ?_
              simp only [Act.put, List.setIfInBounds_toArray, List.set_cons_zero, List.set_cons_succ]
              refine take 6 44 (v := .string (strB ([92, 117, 48, 48] ++ [hexB (n / 16)]))) rfl rfl (by kernel_rfl) (by kernel_rfl) (by kernel_rfl) rfl (fun W hW => exec_bin rfl rfl rfl rfl (add_str _ _ (by simp) W)) (by assumption) ?_
              simp only [Act.put, List.setIfInBounds_toArray, List.set_cons_zero, List.set_cons_succ]
              refine take 7 45 (v := .int .u8 (n : Int)) rfl rfl (by kernel_rfl) (by kernel_rfl) (by kernel_rfl) rfl (fun W hW => exec_move rfl rfl) (by assumption) ?_
              simp only [Act.put, List.setIfInBounds_toArray, List.set_cons_zero, List.set_cons_succ]
              refine take 8 46 (v := .int .u8 ((n % 16 : Nat) : Int)) rfl rfl (by kernel_rfl) (by kernel_rfl) (by kernel_rfl) rfl (fun W hW => exec_bin rfl rfl rfl rfl (f4 W)) (by assumption) ?_
              simp only [Act.put, List.setIfInBounds_toArray, List.set_cons_zero, List.set_cons_succ]
              refine take 9 47 (v := .int .u8 (n : Int)) rfl rfl (by kernel_rfl) (by kernel_rfl) (by kernel_rfl) rfl (fun W hW => exec_move rfl rfl) (by assumption) ?_
              simp only [Act.put, List.setIfInBounds_toArray, List.set_cons_zero, List.set_cons_succ]
              refine take 10 48 (v := .int .u8 ((n % 16 : Nat) : Int)) rfl rfl (by kernel_rfl) (by kernel_rfl) (by kernel_rfl) rfl (fun W hW => exec_bin rfl rfl rfl rfl (f4 W)) (by assumption) ?_
              simp only [Act.put, List.setIfInBounds_toArray, List.set_cons_zero, List.set_cons_succ]
              refine take 11 49 (v := .int .u8 (((n % 16 : Nat) : Int) + 1)) rfl rfl (by kernel_rfl) (by kernel_rfl) (by kernel_rfl) rfl (fun W hW => exec_bin rfl rfl rfl rfl (f6 W)) (by assumption) ?_
              simp only [Act.put, List.setIfInBounds_toArray, List.set_cons_zero, List.set_cons_succ]
              refine take 12 50 (v := .string (strB [hexB (n % 16)])) rfl rfl (by kernel_rfl) (by kernel_rfl) (by kernel_rfl) rfl (fun W hW => exec_slice rfl rfl rfl rfl rfl (f5 W)) (by assumption) ?_
              simp only [Act.put, List.setIfInBounds_toArray, List.set_cons_zero, List.set_cons_succ]
              refine take 13 51 (v := .string (strB ([92, 117, 48, 48] ++ [hexB (n / 16)] ++ [hexB (n % 16)]))) rfl rfl (by kernel_rfl) (by kernel_rfl) (by kernel_rfl) rfl (fun W hW => exec_bin rfl rfl rfl rfl (add_str _ _ (by simp) W)) (by assumption) ?_
              simp only [Act.put, List.setIfInBounds_toArray, List.set_cons_zero, List.set_cons_succ]
              refine onlyCall 14 52 rfl rfl (by kernel_rfl) rfl (exec_call [.pointer (some ⟨B, 0, none⟩), .string (strB ([92, 117, 48, 48] ++ [hexB (n / 16)] ++ [hexB (n % 16)]))] rfl rfl Tryz.func76 (by kernel_rfl) (by kernel_rfl)) ?_
              refine (writeString_any hU0.bld ([92, 117, 48, 48] ++ [hexB (n / 16)] ++ [hexB (n % 16)]) (by have := HS.out.2; simp; omega)).mono ?_
              rintro e w5 ⟨⟨v5, rfl⟩, h5, hb5, hz5⟩
              have hK := hU0.next hf h5 hb5 hz5
              clear h5 hb5 hz5
              refine ⟨_, rfl, .inl (by kernel_rfl), ?_⟩
              simp only [Act.put, List.setIfInBounds_toArray, List.set_cons_zero, List.set_cons_succ]
              refine done (by kernel_rfl) ?_ _
              have HK := Lib.hid hK
              clear hK hU hU0 hf f1 f2 f3 f4 f5 f6 HJ
              go_wp2
              go_roundw
              case rel => exact ⟨j + 1, hlt1, by go_num, Lib.hid (by rw [HS.out.1, HE.out]; exact HK.out)⟩
              case measure => simp [intOf]; omega
          · rw [if_neg hd] at hesc
            have HE := Lib.hid hesc
            have d1 : decide ((c.toNat : Int) < 32) = false := by rw [decide_eq_false_iff_not]; omega
            have d2 : ((c.toNat : Int) == 127) = false := by rw [beq_eq_false_iff_ne]; omega
            clear hd hesc
            go_wp2_with (first
              | (go_at_call 75; refine (HI.out _).mono ?_; rintro e w4 ⟨rfl, rfl⟩)
              | (go_at_call 74
                 (
                   refine (writeByte_any HJ.out.bld c (by have := HS.out.2; omega)).mono ?_
                   rintro e w5 ⟨rfl, h5, hb5, hz5⟩
                   have HK := Lib.hid (HJ.out.next HQ.out.2.1 h5 hb5 hz5)
                   clear h5 hb5 hz5 HJ)))
            go_roundw
            case rel => exact ⟨j + 1, hlt1, by go_num, Lib.hid (by rw [HS.out.1, HE.out]; exact HK.out)⟩
            case measure => simp [intOf]; omega
      · obtain rfl : j = s.length := by omega
        have hln := quote_len s s.length
        have hfin : R = (39 :: (s.take s.length).flatMap escB) ++ [39] := by rw [HN.out, List.take_length]; rfl
        generalize 39 :: (s.take s.length).flatMap escB = L at *
        have HS := Lib.hid (And.intro hfin (show L.length ≤ 6600000000000 by omega))
        clear hfin hln HN
        go_wp2_with (first
          | (go_at_call 74
             (
               refine (writeByte39 HJ.out.bld (by have := HS.out.2; omega)).mono ?_
               rintro e w5 ⟨rfl, h5, hb5, hz5⟩
               have HK := Lib.hid (HJ.out.next HQ.out.2.1 h5 hb5 hz5)
               clear h5 hb5 hz5 HJ))
          | (go_at_call 77
             (
               refine (string_of HK.out.bld).mono ?_
               rintro e w6 ⟨rfl, hb6⟩
               have HF := Lib.hid (HK.out.below.trans (hb6.mono HK.out.le))
               clear hb6)))
        go_ret
        exact ⟨ret_str (by rw [HS.out.1]), HF.out⟩
end Go.Proofs.YtnkaegdnjfpliaaGreatDoor

/-! The law of a range over a function that keeps memory of its own as it goes. Nothing of the program is named here. -/
namespace Go.Proofs.YtnkaegdnjfpliaaGreatDoor
set_option linter.unusedSimpArgs false
set_option linter.unusedVariables false
open Go.RowKit

/-- The contract of an iterator whose every block from its begin on is its own: yield turns none of them. -/
def IterA {α : Type} (P : Program) (gf : FuncId) (lb : Array Value) (enc : α → Array Value) (Ok Done : List α → Prop) (Pre : World → Prop) : Prop :=
  ∀ (l : Nat) (J : List α → World → Prop) (Jx : World → Prop) (w : World), l < w.heap.size →
    (∀ pre W, J pre W → Pre W) →
    (∀ pre W W', J pre W → w.heap.size ≤ W.heap.size → Touch (fun b => w.heap.size ≤ b) W W' → J pre W') →
    (∀ pre x W, Ok (pre ++ [x]) → J pre W → w.heap.size ≤ W.heap.size → Yields P l (enc x) W (fun e W' =>
      (∀ b, w.heap.size ≤ b → b < W.heap.size → W'.heap[b]? = W.heap[b]?) ∧ W.heap.size ≤ W'.heap.size ∧
      ((e = .returned (.bool true) ∧ J (pre ++ [x]) W') ∨ (e = .returned (.bool false) ∧ Jx W')))) →
    J [] w →
    CallsIn FW 0 P gf (#[.func (.yield l) #[] #[]] ++ lb) w (fun e W' => e = .returned (.tuple #[]) ∧ Ended Done J Jx W')

/-- THE STATEMENT `for .. := range g { body }`, in a frame of no round. -/
theorem wp_rangeA {α : Type} {P : Program} {g : Operand} {ps : Array Tmp} {assign body : Code} {Q : Exit → Act → World → Prop} {a : Act} {w : World}
    {gf : FuncId} {lb : Array Value} {enc : α → Array Value} {Ok Done : List α → Prop} {Pre : World → Prop} {gfn : Func}
    (hg : a.eval g = .func (.func gf) #[] lb) (hfn : P.funcs[gf]? = some gfn) (hbody : gfn.body.isSome = true) (hname : (gfn.name == "runtime.NumGoroutine") = false)
    (hit : IterA P gf lb enc Ok Done Pre) (henc : ∀ x, (enc x).size = ps.size)
    (I : List α → World → Prop) (Ix : Code → World → Prop)
    (S : Nat → Prop) (hS : ∀ b, S b → b < w.heap.size)
    (h0 : ∀ W, Below w.heap.size w W → w.heap.size + 2 ≤ W.heap.size → I [] W)
    (hpre : ∀ pre W, I pre W → Pre W)
    (hkeep : ∀ pre W W', I pre W → w.heap.size + 2 ≤ W.heap.size → Touch (fun b => w.heap.size + 2 ≤ b) W W' → I pre W')
    (hput : ∀ pre W o, I pre W → I pre (W.putObj (w.heap.size + 1) o))
    (hputx : ∀ c W o, Ix c W → Ix c (W.putObj (w.heap.size + 1) o))
    (hround : ∀ (r r' : Obj) (pre : List α) (x : α) (W : World), Ok (pre ++ [x]) → I pre W → w.heap.size + 2 ≤ W.heap.size → W.heap[w.heap.size + 1]? = some r →
      assign.wpIn (FR (w.heap.size + 1)) 0 P (Exit.then (fun a₁ w₁ => Mid (w.heap.size + 1) r r' W w₁ fun w₂ =>
            body.wpIn (FR (w.heap.size + 1)) 0 P (roundEnd (fun W' => Over S w₂ W' ∧ I (pre ++ [x]) W') (fun c W' => Over S w₂ W' ∧ Ix c W')) a₁ w₂) (fun _ _ _ => False))
        { tmps := (ps.zip (enc x)).foldl (fun tmps (t, a) => tmps.setIfInBounds t a) a.tmps, defers := [] } W)
    (hdone : ∀ xs W, Done xs → I xs W → W.heap[w.heap.size]? = some (.deferred (some [])) → Q .normal { a with defers := { target := .collected w.heap.size, args := #[] } :: a.defers } W)
    (hstop : ∀ c W, Ix c W → W.heap[w.heap.size]? = some (.deferred (some [])) → c.wp P Q { a with defers := { target := .collected w.heap.size, args := #[] } :: a.defers } W) :
    (Code.rangeFunc g ps assign body).wp P Q a w := by
  refine (wpIn_wide (n := 0)).1 (wpIn_rangeFunc fun fn _ => ?_)
  have hD0 : ∀ o, ((w.alloc (.deferred (some []))).alloc o).heap[w.heap.size]? = some (.deferred (some [])) := fun o => by
    rw [Below.heap_alloc _ _ _ (by simp)]; exact heap_alloc_new w _
  have hl0 : ∀ o, ((w.alloc (.deferred (some []))).alloc o).heap[w.heap.size + 1]? = some o := fun o => by
    have := heap_alloc_new (w.alloc (.deferred (some []))) o; simpa using this
  let w₁ := (w.alloc (.deferred (some []))).alloc (recOf fn a.tmps ps assign body w.heap.size .ready none)
  have hsz : w₁.heap.size = w.heap.size + 2 := by simp [w₁]
  refine ⟨_, _, w₁, { target := .fn (.func gf) lb, args := #[.func (.yield (w.heap.size + 1)) #[] #[]] }, w₁, gf, #[.func (.yield (w.heap.size + 1)) #[] #[]] ++ lb, w₁, run_enterLoop, ?_, fun _ _ => trivial, ?_, (fun h => by simp [Fence.wide] at h), ?_⟩
  · have hy : a.eval (.const (.func (.yield (w.heap.size + 1)) #[] #[])) = .func (.yield (w.heap.size + 1)) #[] #[] := rfl
    simp only [resolve, hg, hy, List.map_toArray, List.map_cons, List.map_nil]
    rfl
  · simp only [invoke]; exact enters_plain hfn hbody hname _ _
  · let J : List α → World → Prop := fun pre W => I pre W ∧ W.heap[w.heap.size]? = some (.deferred (some [])) ∧ W.heap[w.heap.size + 1]? = some (recOf fn a.tmps ps assign body w.heap.size .ready none)
    let Jx : World → Prop := fun W => ∃ c, Ix c W ∧ W.heap[w.heap.size]? = some (.deferred (some [])) ∧ W.heap[w.heap.size + 1]? = some (recOf fn a.tmps ps assign body w.heap.size .done (some c))
    have hcall := hit (w.heap.size + 1) J Jx w₁ (by omega) (fun pre W h => hpre pre W h.1) ?_ ?_ ?_
    · have hq : CallsIn FW (0 - 1) P gf (#[.func (.yield (w.heap.size + 1)) #[] #[]] ++ lb) w₁ (rangePost FW 0 P (w.heap.size + 1) Q { a with defers := [{ target := .collected w.heap.size, args := #[] }] ++ a.defers }) := by
        refine ⟨hcall.1, fun cs hr => ?_⟩
        obtain ⟨e, w', fr, ⟨he, hJ⟩, rest⟩ := hcall.2 cs hr
        subst he
        refine ⟨_, w', fr, ?_, rest⟩
        rcases hJ with ⟨xs, hx, hI, hD, hl⟩ | ⟨c, hI, hD, hl⟩
        · refine ⟨none, _, run_endLoop (by simp) hl, ?_⟩
          refine hdone xs _ hx (hput _ _ _ hI) ?_
          rw [World.putObj_heap_other (by omega)]; exact hD
        · refine ⟨some c, _, run_endLoop (by simp) hl, ?_⟩
          refine (wpIn_wide (n := 0)).2 (hstop c _ (hputx _ _ _ hI) ?_)
          rw [World.putObj_heap_other (by omega)]; exact hD
      exact hq
    · rintro pre W W' ⟨hI, hD, hl⟩ hs hk
      rw [hsz] at hk hs
      exact ⟨hkeep pre W W' hI hs hk, hk.heap hD (by omega), hk.heap hl (by omega)⟩
    · rintro pre x W hok ⟨hI, hD, hl⟩ hs
      rw [hsz] at hs
      refine ⟨_, _, _, _, run_yield (henc x) hl, ?_⟩
      refine roundIn_of_wpIn trivial ?_
      have hr := hround _ (recOf fn a.tmps ps assign body w.heap.size .busy none) pre x W hok hI hs hl
      intro b k' cs hb hF hroom
      obtain ⟨e, a', w', hq, harr⟩ := hr b k' cs hb hF hroom
      refine ⟨e, a', w', ?_, harr⟩
      cases e with
      | normal =>
        obtain ⟨htouch, hl1, hbd⟩ := hq
        have hD1 := htouch.heap hD (by simp)
        refine ⟨_, run_beginRound hl1, ?_⟩
        have hl2 : (w'.putObj (w.heap.size + 1) (recOf fn a.tmps ps assign body w.heap.size .busy none)).heap[w.heap.size + 1]? = some (recOf fn a.tmps ps assign body w.heap.size .busy none) :=
          putObj_self hl1
        have hD2 : (w'.putObj (w.heap.size + 1) (recOf fn a.tmps ps assign body w.heap.size .busy none)).heap[w.heap.size]? = some (.deferred (some [])) :=
          (World.putObj_heap_other (by omega)).trans hD1
        have hsz2 : W.heap.size ≤ (w'.putObj (w.heap.size + 1) (recOf fn a.tmps ps assign body w.heap.size .busy none)).heap.size := by simpa using htouch.size
        have hown2 : ∀ b, w.heap.size + 2 ≤ b → b < W.heap.size → (w'.putObj (w.heap.size + 1) (recOf fn a.tmps ps assign body w.heap.size .busy none)).heap[b]? = W.heap[b]? := fun b h1 h2 =>
          (World.putObj_heap_other (by omega)).trans (htouch.block b (by omega) (by simp))
        have hb2 := hbd _ rfl
        generalize w'.putObj (w.heap.size + 1) (recOf fn a.tmps ps assign body w.heap.size .busy none) = w₂ at *
        intro b k' cs hb hF hroom
        obtain ⟨e, a', w'', hq, harr⟩ := hb2 b k' cs hb hF hroom
        refine ⟨e, a', w'', ?_, harr⟩
        have both : ∀ W', Over S w₂ W' → W'.heap[w.heap.size + 1]? = some (recOf fn a.tmps ps assign body w.heap.size .busy none) ∧ W'.heap[w.heap.size]? = some (.deferred (some [])) ∧
            W.heap.size ≤ W'.heap.size ∧ ∀ b, w.heap.size + 2 ≤ b → b < W.heap.size → W'.heap[b]? = W.heap[b]? := fun W' ho =>
          ⟨ho.heap hl2 (fun h => by have := hS _ h; omega), ho.heap hD2 (fun h => by have := hS _ h; omega), Nat.le_trans hsz2 ho.size,
            fun b h1 h2 => (ho.block b (by omega) (fun h => by have := hS _ h; omega)).trans (hown2 b h1 h2)⟩
        have leave : ∀ (c : Code) (W' : World), (Over S w₂ W' ∧ Ix c W') →
            ∃ v w₄, (Instr.endRound (w.heap.size + 1) (some c)).run P W' = .ok v w₄ ∧
              (∀ b, w₁.heap.size ≤ b → b < W.heap.size → w₄.heap[b]? = W.heap[b]?) ∧ W.heap.size ≤ w₄.heap.size ∧ ((Ending.returned v = .returned (.bool true) ∧ J (pre ++ [x]) w₄) ∨ (Ending.returned v = .returned (.bool false) ∧ Jx w₄)) := by
          rintro c W' ⟨ho, h1⟩
          obtain ⟨hl3, hD3, h2, h3⟩ := both W' ho
          refine ⟨_, _, run_endRound (some c) hl3, fun b hb1 hb2 => ?_, by simpa using h2, .inr ⟨rfl, c, hputx _ _ _ h1, ?_, putObj_self hl3⟩⟩
          · rw [hsz] at hb1
            rw [World.putObj_heap_other (by omega)]; exact h3 b hb1 hb2
          · rw [World.putObj_heap_other (by omega)]; exact hD3
        cases e with
        | normal =>
          obtain ⟨ho, h1⟩ := hq
          obtain ⟨hl3, hD3, h2, h3⟩ := both w'' ho
          refine ⟨_, _, run_endRound none hl3, fun b hb1 hb2 => ?_, by simpa using h2, .inl ⟨rfl, hput _ _ _ h1, ?_, putObj_self hl3⟩⟩
          · rw [hsz] at hb1
            rw [World.putObj_heap_other (by omega)]; exact h3 b hb1 hb2
          · rw [World.putObj_heap_other (by omega)]; exact hD3
        | ret => exact leave _ _ hq
        | exit id => exact leave _ _ hq
        | goto t => exact leave _ _ hq
        | panic c => exact hq.elim
        | outgrown => exact hq.elim
      | exit id => exact hq.elim
      | goto t => exact hq.elim
      | ret => exact hq.elim
      | panic c => exact hq.elim
      | outgrown => exact hq.elim
    · refine ⟨h0 _ ?_ (by omega), hD0 _, hl0 _⟩
      exact ((Below.refl _ _).alloc (Nat.le_refl _) _).alloc (by simp) _


section
variable {P : Program} {ops : Array Oper} {a : Act} {w w' : World} {o : Oper} {v : Value} {rest : List Oper}
/-- A region that may call yield and does not draw. -/
theorem yield_region {id : Nat} {l : List Oper} {Q : Exit → Act → World → Prop} (h : wpListIn FW 0 P l.toArray (Only (Q .normal)) l a w) : (Code.region id l.toArray false).wp P Q a w := by
  refine (wpIn_wide (n := 0)).1 ?_
  have h2 := wpIn_region_lit (F := FW) (n := 0) (id := id) h
  intro b k cs h3 h4 h5
  obtain ⟨e, a', w', hq, harr⟩ := h2 b k cs h3 h4 h5
  exact ⟨e, a', w', by cases e <;> first | exact hq | exact hq.elim, harr⟩
theorem listYield {l : Nat} {fn : FuncId} {tmps : Array Value} {assign body : Code} {K : Act → World → Prop} (hg : o.guard = none) (hd : ∀ c, o.op ≠ .defer c) (hx : (execOp a.eval o).run P w = .ok (.round l fn tmps assign body) w)
    (h : RoundIn FW 0 P l fn tmps assign body w fun e w' => ∃ v, e = .returned v ∧ wpListIn FW 0 P ops (Only K) rest (a.put o.dst v) w') : wpListIn FW 0 P ops (Only K) (o :: rest) a w :=
  wpListIn_plain hg fun K' hK => by
    refine ⟨fun f _ => trivial, ?_⟩
    rw [Oper.semAt_eq _ _ _ hd, hx]
    refine ⟨fun h => by simp [Fence.wide] at h, h.mono ?_⟩
    rintro e w' ⟨v, rfl, hk⟩
    exact hK _ _ hk
theorem listRun {K : Act → World → Prop} (hg : o.guard = none) (hd : ∀ c, o.op ≠ .defer c) (hr : (execOp a.eval o).run P w = .ok (.value v) w') (h : wpListIn FW 0 P ops (Only K) rest (a.put o.dst v) w') : wpListIn FW 0 P ops (Only K) (o :: rest) a w :=
  wpListIn_run (fun _ => trivial) hg hd hr h
end
end Go.Proofs.YtnkaegdnjfpliaaGreatDoor

/-! Values in memory of their own. -/
namespace Go.Proofs.YtnkaegdnjfpliaaGreatDoor
set_option linter.unusedSimpArgs false
set_option linter.unusedVariables false
open Go.RowKit

/-- A row of cells of its own, in a block of some. -/
def OwnsP (w : World) (P : Nat → Prop) (e : TypeId) (size : Nat) (v : Value) (n : Nat) (xs : List Value) : Prop := w.ownsRow 0 e size v n xs ∧ ∀ g, v.ownBlock = some g → P g
section
variable {w w' : World} {P P' : Nat → Prop} {e : TypeId} {size : Nat} {v : Value} {n : Nat} {xs : List Value}
theorem OwnsP.keep (h : OwnsP w P e size v n xs) (hk : ∀ b, P b → b < w.heap.size → w'.heap[b]? = w.heap[b]?) : OwnsP w' P e size v n xs :=
  ⟨ownsRow_heap h.1 fun g hg => hk g (h.2 g hg) (h.1.lt g hg).2, h.2⟩
theorem OwnsP.imp (h : OwnsP w P e size v n xs) (hp : ∀ b, b < w.heap.size → P b → P' b) : OwnsP w P' e size v n xs := ⟨h.1, fun g hg => hp g (h.1.lt g hg).2 (h.2 g hg)⟩
theorem OwnsP.of_base {base : Nat} (h : w.ownsRow base e size v n xs) : OwnsP w (fun b => base ≤ b) e size v n xs := by
  refine ⟨⟨h.1, ?_⟩, fun g hg => (h.lt g hg).1⟩
  rcases h.2 with hn | ⟨g, cap, cur, rfl, h1, rest⟩
  · exact .inl hn
  · exact .inr ⟨g, cap, cur, rfl, Nat.zero_le _, rest⟩
end
mutual
/-- Six cells' values are a value, in memory of blocks of P. -/
def VOwn (w : World) (P : Nat → Prop) : V → Array Value → Prop
  | .mk k b n t ks l, cs => ∃ vk vl xs, cs = #[.int .i64 k, .bool b, .int .i64 n, .string (strB t), vk, vl] ∧ OwnsP w P 9 1 vk ks.length (ks.map strV) ∧ OwnsP w P 26 6 vl l.length (xs.flatMap Array.toList) ∧ VOwns w P l xs
def VOwns (w : World) (P : Nat → Prop) : List V → List (Array Value) → Prop
  | [], xs => xs = []
  | v :: r, xs => ∃ x q, xs = x :: q ∧ VOwn w P v x ∧ VOwns w P r q
end
/-- Values in memory of their own, at a slice. -/
def LOwn (w : World) (P : Nat → Prop) (vl : Value) (l : List V) : Prop := ∃ xs, OwnsP w P 26 6 vl l.length (xs.flatMap Array.toList) ∧ VOwns w P l xs
theorem VOwn_iff {w : World} {P : Nat → Prop} {k : Int} {b : Bool} {n : Int} {t : List UInt8} {ks : List (List UInt8)} {l : List V} {cs : Array Value} : VOwn w P (.mk k b n t ks l) cs ↔
    ∃ vk vl, cs = #[.int .i64 k, .bool b, .int .i64 n, .string (strB t), vk, vl] ∧ OwnsP w P 9 1 vk ks.length (ks.map strV) ∧ LOwn w P vl l := by
  rw [VOwn]
  constructor
  · rintro ⟨vk, vl, xs, h1, h2, h3, h4⟩; exact ⟨vk, vl, h1, h2, xs, h3, h4⟩
  · rintro ⟨vk, vl, h1, h2, xs, h3, h4⟩; exact ⟨vk, vl, xs, h1, h2, h3, h4⟩
theorem VOwns_snoc {w : World} {P : Nat → Prop} : ∀ {l : List V} {xs : List (Array Value)} {v : V} {x : Array Value}, VOwns w P l xs → VOwn w P v x → VOwns w P (l ++ [v]) (xs ++ [x]) := by
  intro l
  induction l with
  | nil =>
    intro xs v x h hv
    rw [VOwns] at h; subst h
    exact ⟨x, [], rfl, hv, rfl⟩
  | cons a r ih =>
    intro xs v x h hv
    obtain ⟨y, q, rfl, h1, h2⟩ := h
    exact ⟨y, q ++ [x], rfl, h1, ih h2 hv⟩
theorem VOwns_get {w : World} {P : Nat → Prop} : ∀ {l : List V} {xs : List (Array Value)}, VOwns w P l xs → ∀ (j : Nat) (v : V), l[j]? = some v → ∃ x, xs[j]? = some x ∧ VOwn w P v x := by
  intro l
  induction l with
  | nil => intro xs _ j v hv; simp at hv
  | cons a r ih =>
    intro xs h j v hv
    obtain ⟨y, q, rfl, h1, h2⟩ := h
    cases j with
    | zero => simp only [List.getElem?_cons_zero, Option.some.injEq] at hv; subst hv; exact ⟨y, rfl, h1⟩
    | succ j => exact ih h2 j v (by simpa using hv)
theorem VOwn.size6 {w : World} {P : Nat → Prop} {v : V} {x : Array Value} (h : VOwn w P v x) : x.size = 6 := by
  cases v; obtain ⟨vk, vl, rfl, _⟩ := VOwn_iff.1 h; rfl
/-- What is kept where no block of its own is turned. -/
theorem VOwn.keep {w w' : World} {P : Nat → Prop} (hk : ∀ b, P b → b < w.heap.size → w'.heap[b]? = w.heap[b]?) : ∀ {v : V} {x : Array Value}, VOwn w P v x → VOwn w' P v x := by
  intro v
  refine V.ind (P := fun v => ∀ {x : Array Value}, VOwn w P v x → VOwn w' P v x) (fun k b n t ks l ih x h => ?_) v
  obtain ⟨vk, vl, e, h1, xs, h2, h3⟩ := VOwn_iff.1 h
  refine VOwn_iff.2 ⟨vk, vl, e, h1.keep hk, xs, h2.keep hk, ?_⟩
  clear h h1 h2 e
  induction l generalizing xs with
  | nil => exact h3
  | cons a r ihr =>
    obtain ⟨y, q, rfl, g1, g2⟩ := h3
    exact ⟨y, q, rfl, ih a (by simp) g1, ihr (fun v hv => ih v (by simp [hv])) q g2⟩
theorem VOwns.keep {w w' : World} {P : Nat → Prop} (hk : ∀ b, P b → b < w.heap.size → w'.heap[b]? = w.heap[b]?) : ∀ {l : List V} {xs : List (Array Value)}, VOwns w P l xs → VOwns w' P l xs := by
  intro l
  induction l with
  | nil => intro xs h; exact h
  | cons a r ih =>
    intro xs h
    obtain ⟨y, q, rfl, g1, g2⟩ := h
    exact ⟨y, q, rfl, g1.keep hk, ih g2⟩
theorem VOwn.below {w w' : World} {P : Nat → Prop} {v : V} {x : Array Value} (h : VOwn w P v x) (g : Below w.heap.size w w') : VOwn w' P v x := h.keep fun b _ hb => g.block b hb
theorem VOwns.below {w w' : World} {P : Nat → Prop} {l : List V} {xs : List (Array Value)} (h : VOwns w P l xs) (g : Below w.heap.size w w') : VOwns w' P l xs := h.keep fun b _ hb => g.block b hb
theorem LOwn.below {w w' : World} {P : Nat → Prop} {vl : Value} {l : List V} (h : LOwn w P vl l) (g : Below w.heap.size w w') : LOwn w' P vl l := by
  obtain ⟨xs, h1, h2⟩ := h
  exact ⟨xs, h1.keep fun b _ hb => g.block b hb, h2.below g⟩
theorem VOwn.imp {w : World} {P P' : Nat → Prop} (hp : ∀ b, b < w.heap.size → P b → P' b) : ∀ {v : V} {x : Array Value}, VOwn w P v x → VOwn w P' v x := by
  intro v
  refine V.ind (P := fun v => ∀ {x : Array Value}, VOwn w P v x → VOwn w P' v x) (fun k b n t ks l ih x h => ?_) v
  obtain ⟨vk, vl, e, h1, xs, h2, h3⟩ := VOwn_iff.1 h
  refine VOwn_iff.2 ⟨vk, vl, e, h1.imp hp, xs, h2.imp hp, ?_⟩
  clear h h1 h2 e
  induction l generalizing xs with
  | nil => exact h3
  | cons a r ihr =>
    obtain ⟨y, q, rfl, g1, g2⟩ := h3
    exact ⟨y, q, rfl, ih a (by simp) g1, ihr (fun v hv => ih v (by simp [hv])) q g2⟩
theorem VOwns.imp {w : World} {P P' : Nat → Prop} (hp : ∀ b, b < w.heap.size → P b → P' b) : ∀ {l : List V} {xs : List (Array Value)}, VOwns w P l xs → VOwns w P' l xs := by
  intro l
  induction l with
  | nil => intro xs h; exact h
  | cons a r ih =>
    intro xs h
    obtain ⟨y, q, rfl, g1, g2⟩ := h
    exact ⟨y, q, rfl, g1.imp hp, ih g2⟩
theorem LOwn.imp {w : World} {P P' : Nat → Prop} (hp : ∀ b, b < w.heap.size → P b → P' b) {vl : Value} {l : List V} (h : LOwn w P vl l) : LOwn w P' vl l := by
  obtain ⟨xs, h1, h2⟩ := h
  exact ⟨xs, h1.imp hp, h2.imp hp⟩
/-- Owned strings are read. -/
theorem owned_rdS {w : World} {P : Nat → Prop} {v : Value} {l : List (List UInt8)} (h : OwnsP w P 9 1 v l.length (l.map strV)) (h1 : l.length ≤ 140737488355328) (h2 : ∀ s ∈ l, s.length ≤ 140737488355328) : ∃ p c, v = .slice p l.length c ∧ RdS w p c l := by
  have hc := fun g => h.1.cells (g := g)
  rcases h.1.2 with ⟨rfl, h0⟩ | ⟨g, cap, cur, rfl, _, hg, hnc, hcm, _⟩
  · have : l = [] := List.eq_nil_of_length_eq_zero h0
    subst this
    exact ⟨none, 0, rfl, Nat.le_refl _, by simp, fun _ => rfl, h2, fun ad h => by cases h⟩
  · refine ⟨some ⟨g, 0, none⟩, cap, rfl, hnc, ⟨h1, by unfold maxLen at hcm; omega⟩, fun h => (by cases h), h2, fun ad had => ?_⟩
    cases had
    refine ⟨fun _ => rfl, fun i s hs => ?_⟩
    have := hc g rfl i (strV s) (by simp [hs])
    rw [addr_add] at this
    simpa [strV] using this
theorem flat_six {xs : List (Array Value)} (h6 : ∀ x ∈ xs, x.size = 6) : ∀ (j : Nat) (x : Array Value), xs[j]? = some x → ∀ i, i < 6 → (xs.flatMap Array.toList)[j * 6 + i]? = x[i]? := by
  induction xs with
  | nil => intro j x h; simp at h
  | cons a r ih =>
    intro j x h i hi
    have ha := h6 a (by simp)
    rw [List.flatMap_cons]
    cases j with
    | zero =>
      simp only [List.getElem?_cons_zero, Option.some.injEq] at h
      subst h
      rw [Nat.zero_mul, Nat.zero_add, List.getElem?_append_left (by simp [ha, hi])]
      simp
    | succ j =>
      have hj : a.toList.length ≤ (j + 1) * 6 + i := by simp [ha]; omega
      rw [List.getElem?_append_right hj]
      have e : (j + 1) * 6 + i - a.toList.length = j * 6 + i := by simp [ha]; omega
      rw [e]
      exact ih (fun x hx => h6 x (by simp [hx])) j x (by simpa using h) i hi
theorem VOwns.six {w : World} {P : Nat → Prop} : ∀ {l : List V} {xs : List (Array Value)}, VOwns w P l xs → ∀ x ∈ xs, x.size = 6 := by
  intro l
  induction l with
  | nil => intro xs h; rw [VOwns] at h; subst h; simp
  | cons a r ih =>
    intro xs h x hx
    obtain ⟨y, q, rfl, g1, g2⟩ := h
    rcases List.mem_cons.1 hx with rfl | hx
    · exact g1.size6
    · exact ih g2 x hx
/-- Owned values are read. -/
theorem VOwn.rd {w : World} {P : Nat → Prop} : ∀ {v : V} {x : Array Value}, VOwn w P v x → totV v ≤ 1000000 → VRd w v x := by
  intro v
  refine V.ind (P := fun v => ∀ {x : Array Value}, VOwn w P v x → totV v ≤ 1000000 → VRd w v x) (fun k b n t ks l ih x h ht => ?_) v
  rw [totV_mk] at ht
  obtain ⟨vk, vl, rfl, h1, xs, h2, h3⟩ := VOwn_iff.1 h
  obtain ⟨pk, ck, rfl, hk⟩ := owned_rdS h1 (by omega) (fun s hs => by have := sum_mem hs; omega)
  have hlen := totVs_length l
  have h6 := h3.six
  have hc := fun g => h2.1.cells (g := g)
  have hget := VOwns_get h3
  rcases h2.1.2 with ⟨rfl, h0⟩ | ⟨g, cap, cur, rfl, _, hg, hnc, hcm, _⟩
  · have : l = [] := List.eq_nil_of_length_eq_zero h0
    subst this
    exact VRd_iff.2 ⟨pk, ck, none, 0, rfl, by omega, hk, ⟨Nat.le_refl _, by simp, fun _ => rfl⟩, fun ad h => by cases h⟩
  · refine VRd_iff.2 ⟨pk, ck, some ⟨g, 0, none⟩, cap, rfl, by omega, hk, ⟨hnc, ⟨by omega, by unfold maxLen at hcm; omega⟩, fun h => by cases h⟩, fun ad had => ?_⟩
    cases had
    refine ⟨fun _ => rfl, fun j v hv => ?_⟩
    obtain ⟨x, hx, hown⟩ := hget j v hv
    have hr := ih v (List.mem_of_getElem? hv) hown (by have := totVs_mem (List.mem_of_getElem? hv); omega)
    obtain ⟨pk2, ck2, pl2, cl2, rfl, _⟩ := hr.open
    have cell : ∀ i u, i < 6 → (#[Value.int .i64 v.kind, .bool v.b, .int .i64 v.n, .string (strB v.text), .slice pk2 v.keys.length ck2, .slice pl2 v.list.length cl2] : Array Value)[i]? = some u → w.cell? ⟨g, 0 + j * 6 + i, none⟩ = some u := by
      intro i u hi hu
      have := hc g rfl (j * 6 + i) u (by rw [flat_six h6 j _ hx i hi]; exact hu)
      rw [addr_add] at this
      rw [Nat.zero_add] at this ⊢
      exact this
    exact ⟨_, ⟨_, _, _, _, _, _, rfl, cell 0 _ (by omega) rfl, cell 1 _ (by omega) rfl, cell 2 _ (by omega) rfl, cell 3 _ (by omega) rfl, cell 4 _ (by omega) rfl, cell 5 _ (by omega) rfl⟩, hr⟩

theorem LOwn.rd {w : World} {P : Nat → Prop} {vl : Value} {l : List V} (h : LOwn w P vl l) (ht : totVs l ≤ 900000) : ∃ p c, vl = .slice p l.length c ∧ LRd w p c l := by
  have h2 : VOwn w P (.mk 0 false 0 [] [] l) #[.int .i64 0, .bool false, .int .i64 0, .string (strB []), .slice none 0 0, vl] := VOwn_iff.2 ⟨.slice none 0 0, vl, rfl, ⟨⟨by simp, .inl ⟨rfl, rfl⟩⟩, fun g hg => by simp [Value.ownBlock] at hg⟩, h⟩
  have h3 := h2.rd (by rw [totV_mk]; simp; omega)
  obtain ⟨pk, ck, pl, cl, e, _, _, hl⟩ := VRd_iff.1 h3
  have e2 := congrArg (fun (a : Array Value) => a[5]?) e
  simp at e2
  exact ⟨pl, cl, e2, hl⟩
end Go.Proofs.YtnkaegdnjfpliaaGreatDoor

/-! Copies of values. -/
namespace Go.Proofs.YtnkaegdnjfpliaaGreatDoor
set_option linter.unusedSimpArgs false
set_option linter.unusedVariables false
open Go.RowKit

theorem info_val : ∃ i, Tryz.prog.info? 26 = some i ∧ i.zero = some (.agg #[.int .i64 0, .bool false, .int .i64 0, .string ⟨#[]⟩, .slice none 0 0, .slice none 0 0]) ∧ i.size = 6 ∧ i.bytes = 88 := info_parts (by kernel_rfl)
theorem VOwn.open {w : World} {P : Nat → Prop} {v : V} {x : Array Value} (h : VOwn w P v x) : ∃ vk vl, x = #[.int .i64 v.kind, .bool v.b, .int .i64 v.n, .string (strB v.text), vk, vl] ∧ OwnsP w P 9 1 vk v.keys.length (v.keys.map strV) ∧ LOwn w P vl v.list := by
  cases v; exact VOwn_iff.1 h
theorem VOwn.mk' {w : World} {P : Nat → Prop} {v : V} {vk vl : Value} (hk : OwnsP w P 9 1 vk v.keys.length (v.keys.map strV)) (hl : LOwn w P vl v.list) : VOwn w P v #[.int .i64 v.kind, .bool v.b, .int .i64 v.n, .string (strB v.text), vk, vl] := by
  cases v; exact VOwn_iff.2 ⟨_, _, rfl, hk, hl⟩
theorem OwnsP.one {w : World} {P : Nat → Prop} {n : Nat} {vk : Value} {xs : List Value} (h : OwnsP w P 9 1 vk n xs) : vk.oneCell' = true := by
  rcases h.1.2 with ⟨rfl, _⟩ | ⟨g, cap, cur, rfl, _⟩ <;> rfl
theorem VOwn.ones {w : World} {P : Nat → Prop} {v : V} {x : Array Value} (h : VOwn w P v x) : ∀ u ∈ x.toList, u.oneCell' = true := by
  obtain ⟨vk, vl, rfl, hk, xs, hl, _⟩ := h.open
  have h1 := hk.one
  have h2 : vl.oneCell' = true := by rcases hl.1.2 with ⟨rfl, _⟩ | ⟨g, cap, cur, rfl, _⟩ <;> rfl
  intro u hu
  simp only [List.mem_cons, List.not_mem_nil, or_false] at hu
  rcases hu with rfl | rfl | rfl | rfl | rfl | rfl <;> first | rfl | assumption
theorem flat_len {xs : List (Array Value)} (h6 : ∀ x ∈ xs, x.size = 6) : (xs.flatMap Array.toList).length = xs.length * 6 := by
  induction xs with
  | nil => rfl
  | cons a r ih =>
    rw [List.flatMap_cons, List.length_append, ih fun x hx => h6 x (by simp [hx])]
    have := h6 a (by simp)
    simp [this]; omega
/-- A value behind values. -/
theorem append_val {w : World} {vl : Value} {n : Nat} {ys : List Value} (hown : w.ownsRow 0 26 6 vl n ys) {g : Nat} {x : Array Value} (h6 : x.size = 6) (h1 : ∀ u ∈ x.toList, u.oneCell' = true)
    (hc : w.heap[g]? = some (.cells x 26 (0, 0))) (hn : n ≤ 1000000) (ty : TypeId) :
    ∃ v' w', (Builtin.append_ #[24, 24] ty #[vl, .slice (some ⟨g, 0, none⟩) 1 1]).run Tryz.prog w = .ok v' w' ∧ w'.ownsRow 0 26 6 v' (n + 1) (ys ++ x.toList) ∧ Touch (fun b => vl.ownBlock = some b) w w' ∧
      (v'.ownBlock = vl.ownBlock ∨ v'.ownBlock = some w.heap.size) ∧ w.heap.size ≤ w'.heap.size := by
  obtain ⟨i, i1, i2, i3, i4⟩ := info_val
  exact append_law (P := Tryz.prog) (w := w) 24 ty 26 i _ 6 88 Tryz.underlying24 i1 i2 i3 i4 rfl vl n ys hown ⟨g, 0, none⟩ 1 1 x.toList (by simp [h6]) (fun j u hu => by
    rw [addr_add, Nat.zero_add]; exact cellOf hc (by simpa using hu)) h1 (by unfold maxLen; omega) (by omega)
/-- Values that were copied so far. -/
def CInv (w W : World) (ov : Value) (m : List V) : Prop := ∃ xs, OwnsP W (fun b => w.heap.size ≤ b) 26 6 ov m.length (xs.flatMap Array.toList) ∧ VOwns W (fun b => w.heap.size ≤ b ∧ ov.ownBlock ≠ some b) m xs ∧ Below w.heap.size w W
theorem CInv.below {w W W' : World} {ov : Value} {m : List V} (h : CInv w W ov m) (g : Below W.heap.size W W') : CInv w W' ov m := by
  obtain ⟨xs, h1, h2, h3⟩ := h
  exact ⟨xs, h1.keep fun b _ hb => g.block b hb, h2.below g, below_trans h3 g⟩
theorem CInv.start {w W : World} (h : Below w.heap.size w W) : CInv w W (.slice none 0 0) [] := ⟨[], ⟨⟨rfl, .inl ⟨rfl, rfl⟩⟩, fun g hg => by simp [Value.ownBlock] at hg⟩, rfl, h⟩
theorem CInv.own {w W : World} {ov : Value} {m : List V} (h : CInv w W ov m) : LOwn W (fun b => w.heap.size ≤ b) ov m := by
  obtain ⟨xs, h1, h2, h3⟩ := h
  exact ⟨xs, h1, h2.imp fun b _ hb => hb.1⟩
/-- One more value, copied and appended. -/
theorem CInv.step {w W W1 : World} {ov : Value} {m : List V} {v : V} {x : Array Value} {base : Nat} (h : CInv w W ov m) (hbase : W.heap.size ≤ base) (hb : Below W.heap.size W W1) (hx : VOwn W1 (fun b => base ≤ b) v x) (hm : m.length ≤ 1000000) (ty : TypeId) :
    ∃ v' W2, (Builtin.append_ #[24, 24] ty #[ov, .slice (some ⟨W1.heap.size, 0, none⟩) 1 1]).run Tryz.prog (W1.alloc (.cells x 26)) = .ok v' W2 ∧ CInv w W2 v' (m ++ [v]) := by
  have hnew : Below W1.heap.size W1 (W1.alloc (.cells x 26)) := below_new _
  have hlt : ∀ g, ov.ownBlock = some g → g < W.heap.size := by
    obtain ⟨xs, h1, _⟩ := h
    exact fun g hg => (h1.1.lt g hg).2
  obtain ⟨xs, h1, h2, h3⟩ := (h.below hb).below hnew
  have hx' := hx.below hnew
  have hwW : w.heap.size ≤ W.heap.size := by obtain ⟨_, _, _, h⟩ := h; exact h.size
  obtain ⟨v', W2, a1, a2, a3, a4, a5⟩ := append_val h1.1 hx.size6 hx.ones (heap_alloc_new W1 _) hm ty
  refine ⟨v', W2, a1, xs ++ [x], ⟨?_, fun g hg => ?_⟩, ?_, ?_⟩
  · rw [List.flatMap_append, List.length_append]
    simpa using a2
  · rcases a4 with e | e
    · exact h1.2 g (e.symm.trans hg)
    · rw [e] at hg
      cases hg
      have := h3.size
      omega
  · have hs : VOwns (W1.alloc (.cells x 26)) (fun b => w.heap.size ≤ b ∧ ov.ownBlock ≠ some b ∧ b < (W1.alloc (.cells x 26)).heap.size) (m ++ [v]) (xs ++ [x]) :=
      VOwns_snoc (h2.imp fun b hb hp => ⟨hp.1, hp.2, hb⟩) (hx'.imp fun b hb hp => ⟨by omega, fun e => by have := hlt b e; omega, hb⟩)
    refine (hs.keep (w' := W2) fun b hp hb => a3.block b hb hp.2.1).imp fun b _ hp => ⟨hp.1, ?_⟩
    rcases a4 with e | e
    · rw [e]; exact hp.2.1
    · rw [e]; intro e2; cases e2; have := hp.2.2; omega
  · exact a3.below h3 (fun b hb e => by have := h1.2 b e; omega) h3.size
/-- Keys copied. -/
theorem clone_any {w : World} {p : Option Addr} {c : Nat} {ks : List (List UInt8)} (h : RdS w p c ks) (hn : ks.length ≤ 1000000) :
    Calls Tryz.prog 88 #[.slice p ks.length c] w fun e w' => ∃ vk, e = .returned vk ∧ OwnsP w' (fun b => w.heap.size ≤ b) 9 1 vk ks.length (ks.map strV) ∧ Below w.heap.size w w' := by
  cases ks with
  | nil =>
    cases p with
    | none =>
      refine (Tryz.slices_Clone_string_nil 0 c w).mono ?_
      rintro e w' ⟨rfl, rfl⟩
      exact ⟨_, rfl, ⟨⟨rfl, .inl ⟨rfl, rfl⟩⟩, fun g hg => by simp [Value.ownBlock] at hg⟩, Below.refl _ _⟩
    | some ad =>
      refine (Tryz.slices_Clone_string_zero ad c w).mono ?_
      rintro e w' ⟨v', rfl, h1, _, h2⟩
      exact ⟨_, rfl, .of_base h1, h2⟩
  | cons a r =>
    obtain ⟨b, o, rfl, _⟩ := h.get (i := 0) (by simp)
    have hc : ∀ j, j < ((a :: r).map strB).length → w.cell? ⟨b, o + j, none⟩ = some (.string (((a :: r).map strB).getD j ByteArray.empty)) := by
      intro j hj
      have hj' : j < (a :: r).length := by simpa using hj
      rw [(h.2.2.2.2 _ rfl).2 j (a :: r)[j] (List.getElem?_eq_getElem hj')]
      have e : ((a :: r).map strB).getD j ByteArray.empty = strB (a :: r)[j] := by simp only [List.getD, List.getElem?_map, List.getElem?_eq_getElem hj', Option.map_some, Option.getD_some]
      rw [e]
    refine (Tryz.slices_Clone_string b o (a :: r).length c ((a :: r).map strB) w (by simp) (by omega) hc).mono ?_
    rintro e w' ⟨v', rfl, h1, _, h2⟩
    rw [List.take_of_length_le (by simp), List.map_map] at h1
    exact ⟨_, rfl, .of_base h1, h2⟩

/-- What a copy of a value is. -/
def CopyOk (w : World) (v : V) (e : Ending) (w' : World) : Prop := ∃ x, e = .returned (.agg x) ∧ VOwn w' (fun b => w.heap.size ≤ b) v x ∧ Below w.heap.size w w'
set_option maxRecDepth 100000 in
set_option maxHeartbeats 4000000 in
theorem copies_any {w : World} {p : Option Addr} {c : Nat} {l : List V} (hl : LRd w p c l) (hn : l.length ≤ 1000000)
    (hc : ∀ v ∈ l, ∀ (W : World) (x : Array Value), VRd W v x → Calls Tryz.prog 51 #[.agg x] W (CopyOk W v)) :
    Calls Tryz.prog 83 #[.slice p l.length c] w fun e w' => ∃ vl, e = .returned vl ∧ LOwn w' (fun b => w.heap.size ≤ b) vl l ∧ Below w.heap.size w w' := by
  have HL := Lib.hid hl
  have HC := Lib.hid hc
  have z1 : (l.length : Int) ≤ 140737488355328 := by omega
  clear hl hc
  go_enter Tryz.func83, Tryz.ntmps83
  go_wp2
  go_loopw [3, 8] (fun o i wr => ∃ j : Nat, j ≤ l.length ∧ i = .int .i64 (j : Int) ∧ Hid (CInv w wr o (l.take j))) (fun _ i _ => l.length - (intOf i).toNat)
  case atStart => exact ⟨0, Nat.zero_le _, rfl, Lib.hid (CInv.start (Below.refl _ _))⟩
  case round =>
    obtain ⟨j, hj, rfl, HJ⟩ := hrel
    by_cases hlt : j < l.length
    · have hlt1 : j + 1 ≤ l.length := hlt
      have htk : l.take (j + 1) = l.take j ++ [l[j]] := List.take_succ_eq_append_getElem hlt
      have hbw : Below w.heap.size w wr := by obtain ⟨_, _, _, h⟩ := HJ.out; exact h
      obtain ⟨g1, o1, pk1, ck1, pl1, cl1, rfl, ⟨a0, a1, a2, a3, a4, a5⟩, hv1⟩ := (HL.out.below hbw).at hlt
      have hcall := HC.out l[j] (List.getElem_mem hlt)
      generalize l[j] = s1 at *
      have HD := Lib.hid (And.intro htk (And.intro hcall hv1))
      have HN := Lib.hid hn
      clear htk hcall hv1 hbw hn
      go_wp2_with (first
        | (go_at_call 51
           refine (HD.out.2.1 _ _ (HD.out.2.2.below (below_new _))).mono ?_
           rintro e w1 ⟨x, rfl, hx, hb⟩
           obtain ⟨v', W2, ha, hI⟩ := HJ.out.step (Nat.le_succ _) (below_trans (below_new _) hb) (hx.imp fun b _ hp => by simpa using hp) (by rw [List.length_take]; have := HN.out; omega) 24
           rw [← HD.out.1] at hI
           obtain ⟨vk, vl, rfl, _⟩ := hx.open
           have Ha := Lib.hid ha
           have HI := Lib.hid hI
           clear ha hI hx hb HJ HD)
        | (refine wpList_append rfl rfl rfl rfl Ha.out ?_))
      go_roundw
      case rel => exact ⟨j + 1, hlt1, by go_num, HI⟩
      case measure => simp [intOf]; omega
    · obtain rfl : j = l.length := by omega
      go_wp2
      go_ret
      have h := HJ.out
      rw [List.take_length] at h
      have hb : Below w.heap.size w wr := by obtain ⟨_, _, _, h⟩ := h; exact h
      exact ⟨_, rfl, h.own, hb⟩

theorem box_set {W : World} {g k : Nat} {cs : Array Value} {t : TypeId} (u : Value) (h : W.heap[g]? = some (.cells cs t (0, 0))) : (W.setCell ⟨g, k, none⟩ u).heap[g]? = some (.cells (cs.setIfInBounds k u) t (0, 0)) := heap_setCell_same W g k cs t u h
theorem slices_of {w : World} {P : Nat → Prop} {e : TypeId} {size n : Nat} {v : Value} {xs : List Value} (h : OwnsP w P e size v n xs) : ∃ p c, v = .slice p n c := by
  rcases h.1.2 with ⟨rfl, rfl⟩ | ⟨g, cap, cur, rfl, _⟩
  · exact ⟨none, 0, rfl⟩
  · exact ⟨some ⟨g, 0, none⟩, cap, rfl⟩
theorem put_keys {w : World} {ad : Addr} {p : Option Addr} {n c : Nat} {u : Value} (hc : w.cell? ad = some u) (hf : w.frozen? ad = false) : (storeVar 23 ad (.slice p n c)).run Tryz.prog w = .ok () (w.setCell ad (.slice p n c)) := by
  simp [go_sem, hc, hf, stored]
theorem put_vals {w : World} {ad : Addr} {p : Option Addr} {n c : Nat} {u : Value} (hc : w.cell? ad = some u) (hf : w.frozen? ad = false) : (storeVar 24 ad (.slice p n c)).run Tryz.prog w = .ok () (w.setCell ad (.slice p n c)) := by
  simp [go_sem, hc, hf, stored]
set_option maxRecDepth 100000 in
set_option maxHeartbeats 4000000 in
theorem copy_any : ∀ (v : V), totV v ≤ 1000000 → ∀ (w : World) (x : Array Value), VRd w v x → Calls Tryz.prog 51 #[.agg x] w (CopyOk w v) := by
  refine V.ind fun k b n t ks l ih => ?_
  intro ht w x hx
  rw [totV_mk] at ht
  have hlen := totVs_length l
  obtain ⟨pk, ck, pl, cl, rfl, _, hk1, hl1⟩ := VRd_iff.1 hx
  have hT := TwoV.start w #[.int .i64 k, .bool b, .int .i64 n, .string (strB t), .slice pk ks.length ck, .slice pl l.length cl] #[.int .i64 0, .bool false, .int .i64 0, .string ⟨#[]⟩, .slice none 0 0, .slice none 0 0]
  have HC := Lib.hid (clone_any (hk1.below hT.2.2) (by omega))
  have HI := Lib.hid (fun (W : World) (hb : Below w.heap.size w W) => copies_any (hl1.below hb) (by omega) (fun v hv W x hx => ih v hv (by have := totVs_mem hv; omega) W x hx))
  have HT := Lib.hid hT
  clear ih hx hk1 hl1 hT ht hlen
  go_enter Tryz.func51, Tryz.ntmps51
  go_wp2_with (first
    | (go_at_call 88
       (
         refine HC.out.mono ?_
         rintro e w1 ⟨vk, rfl, hvk, hb1⟩
         obtain ⟨pk', ck', rfl⟩ := slices_of hvk
         have hT1 := HT.out.below hb1
         have hp1 := put_keys (p := pk') (n := ks.length) (c := ck') (cellOf (o := 4) hT1.1 rfl) (freeOf hT1.1)
         have hbx := box_set (k := 4) (.slice pk' ks.length ck') hT1.1
         have hB2 := belowSet hT1.2.2 (Nat.le_refl _) (.slice pk' ks.length ck') (o := 4)
         have hby := (Below.heap_setCell w1 ⟨w.heap.size, 4, none⟩ (.slice pk' ks.length ck') (w.heap.size + 1) (by simp)).trans hT1.2.1
         have hvk2 := (hvk.keep (w' := w1.setCell ⟨w.heap.size, 4, none⟩ (.slice pk' ks.length ck')) (fun b hb _ => Below.heap_setCell w1 ⟨w.heap.size, 4, none⟩ _ b (by show b ≠ w.heap.size; simp only [World.size_alloc] at hb; omega))).imp (P' := fun b => w.heap.size + 2 ≤ b) (fun b _ hb => by simp only [World.size_alloc] at hb; omega)
         have HL5 := Lib.hid (run_load1 (P := Tryz.prog) Tryz.underlying24 rfl (cellOf (o := 5) hbx rfl))
         have HP1 := Lib.hid hp1
         have HB2 := Lib.hid (And.intro hbx (And.intro hby (And.intro hB2 hvk2)))
         clear hvk hvk2 hb1 hT1 hp1 hbx hB2 hby))
    | (go_at_call 83
       (
         refine (HI.out _ HB2.out.2.2.1).mono ?_
         rintro e w3 ⟨vl, rfl, hvl, hb3⟩
         obtain ⟨pl', cl', rfl⟩ : ∃ p c, vl = .slice p l.length c := by obtain ⟨_, h, _⟩ := hvl; exact slices_of h
         obtain ⟨hbx, hby, hB2, hvk2⟩ := HB2.out
         have hx3 := belowBlk hb3 (Array.getElem?_eq_some_iff.1 hbx).1 hbx
         have hy3 := belowBlk hb3 (Array.getElem?_eq_some_iff.1 hby).1 hby
         have hlt := (Array.getElem?_eq_some_iff.1 hby).1
         have hp2 := put_vals (p := pl') (n := l.length) (c := cl') (cellOf (o := 5) hx3 rfl) (freeOf hx3)
         have hx4 := box_set (k := 5) (.slice pl' l.length cl') hx3
         have hy4 := (Below.heap_setCell w3 ⟨w.heap.size, 5, none⟩ (.slice pl' l.length cl') (w.heap.size + 1) (by simp)).trans hy3
         have hother := fun b => Below.heap_setCell w3 ⟨w.heap.size, 5, none⟩ (.slice pl' l.length cl') b
         have hvk4 := (hvk2.keep (fun b _ h => hb3.block b h)).keep (w' := w3.setCell ⟨w.heap.size, 5, none⟩ (.slice pl' l.length cl')) (fun b hb _ => hother b (by show b ≠ w.heap.size; omega))
         obtain ⟨xs, hl1, hl2⟩ := hvl
         have hvl4 : LOwn (w3.setCell ⟨w.heap.size, 5, none⟩ (.slice pl' l.length cl')) (fun b => w.heap.size + 2 ≤ b) (.slice pl' l.length cl') l :=
           ⟨xs, (hl1.keep (fun b hb _ => hother b (by show b ≠ w.heap.size; omega))).imp (fun b _ hb => by omega), (hl2.keep (fun b hb _ => hother b (by show b ≠ w.heap.size; omega))).imp (fun b _ hb => by omega)⟩
         have hB4 := belowSet (below_trans hB2 hb3) (Nat.le_refl _) (.slice pl' l.length cl') (o := 5)
         generalize w3.setCell ⟨w.heap.size, 5, none⟩ (.slice pl' l.length cl') = w4 at *
         have HL4 := Lib.hid (get_val (g := w.heap.size) hx4)
         have hst4 := run_storeVar_row (P := Tryz.prog) w4 (w.heap.size + 1) 26 26 _ #[.int .i64 k, .bool b, .int .i64 n, .string (strB t), .slice pk' ks.length ck', .slice pl' l.length cl'] hy4 (by kernel_rfl) rfl (by simp [Value.oneCell'])
         have hy5 := setRow_heap w4 (w.heap.size + 1) _ #[.int .i64 k, .bool b, .int .i64 n, .string (strB t), .slice pk' ks.length ck', .slice pl' l.length cl'] 26 _ hy4
         have hoth5 := fun (g : Nat) (hg : w.heap.size + 2 ≤ g) => setRow_other w4 (w.heap.size + 1) g #[.int .i64 k, .bool b, .int .i64 n, .string (strB t), .slice pk' ks.length ck', .slice pl' l.length cl'] (by omega)
         have hT5 : Touch (fun b => b = w.heap.size + 1) w4 (w4.setRow (w.heap.size + 1) #[.int .i64 k, .bool b, .int .i64 n, .string (strB t), .slice pk' ks.length ck', .slice pl' l.length cl']) := ⟨rfl, rfl, rfl, by simp, fun g _ hg => setRow_other w4 (w.heap.size + 1) g _ hg⟩
         have hB5 : Below w.heap.size w (w4.setRow (w.heap.size + 1) #[.int .i64 k, .bool b, .int .i64 n, .string (strB t), .slice pk' ks.length ck', .slice pl' l.length cl']) := hT5.below hB4 (fun b hb e => by omega) hB4.size
         have hvk5 := (hvk4.keep (fun b hb _ => hoth5 b hb)).imp (P' := fun b => w.heap.size ≤ b) (fun b _ hb => by omega)
         have hvl5 : LOwn (w4.setRow (w.heap.size + 1) #[.int .i64 k, .bool b, .int .i64 n, .string (strB t), .slice pk' ks.length ck', .slice pl' l.length cl']) (fun b => w.heap.size ≤ b) (.slice pl' l.length cl') l := by
           obtain ⟨xs, hl1, hl2⟩ := hvl4
           exact ⟨xs, (hl1.keep (fun b hb _ => hoth5 b hb)).imp (fun b _ hb => by omega), (hl2.keep (fun b hb _ => hoth5 b hb)).imp (fun b _ hb => by omega)⟩
         have HF := Lib.hid (And.intro (get_val hy5) (And.intro hvk5 (And.intro hvl5 hB5)))
         have HS4 := Lib.hid hst4
         have HP2 := Lib.hid hp2
         generalize w4.setRow (w.heap.size + 1) #[.int .i64 k, .bool b, .int .i64 n, .string (strB t), .slice pk' ks.length ck', .slice pl' l.length cl'] = w5 at *
         clear hvk2 hvk4 hvl4 hB4 hB2 hb3 hbx hby hx3 hy3 hx4 hy4 hother hlt hl1 hl2 HB2 HP1 hp2 hst4 hy5 hoth5 hT5 hB5 hvk5 hvl5))
    | (refine wpList_store rfl _ _ _ _ rfl rfl rfl HP1.out ?_)
    | (refine wpList_store rfl _ _ _ _ rfl rfl rfl HP2.out ?_)
    | (refine wpList_load rfl _ _ _ rfl rfl HL5.out ?_)
    | (refine wpList_load rfl _ _ _ rfl rfl HL4.out ?_)
    | (refine wpList_store rfl _ _ _ _ rfl rfl rfl HS4.out ?_))
  exact bodyPost_ret (results_cell_one rfl _ _ ⟨w.heap.size + 1, 0, none⟩ _ rfl HF.out.1) rfl ⟨_, rfl, VOwn_iff.2 ⟨_, _, rfl, HF.out.2.1, HF.out.2.2.1⟩, HF.out.2.2.2⟩

theorem copies_ok {w : World} {p : Option Addr} {c : Nat} {l : List V} (hl : LRd w p c l) (ht : totVs l ≤ 1000000) :
    Calls Tryz.prog 83 #[.slice p l.length c] w fun e w' => ∃ vl, e = .returned vl ∧ LOwn w' (fun b => w.heap.size ≤ b) vl l ∧ Below w.heap.size w w' :=
  copies_any hl (by have := totVs_length l; omega) fun v hv W x hx => copy_any v (by have := totVs_mem hv; omega) W x hx
set_option maxRecDepth 100000 in
set_option maxHeartbeats 4000000 in
theorem list_any {w : World} {p : Option Addr} {c : Nat} {l : List V} (hl : LRd w p c l) (ht : totVs l ≤ 1000000) :
    Calls Tryz.prog 38 #[.slice p l.length c] w (CopyOk w (.mk 4 false 0 [] [] l)) := by
  have hb0 := below_new (w := w) (.cells #[.int .i64 0, .bool false, .int .i64 0, .string ⟨#[]⟩, .slice none 0 0, .slice none 0 0] 26)
  have hx0 := heap_alloc_new w (.cells #[.int .i64 0, .bool false, .int .i64 0, .string ⟨#[]⟩, .slice none 0 0, .slice none 0 0] 26)
  have HI := Lib.hid (copies_ok (hl.below hb0) ht)
  have HB := Lib.hid (And.intro hb0 hx0)
  clear hl ht hb0 hx0
  go_enter Tryz.func38, Tryz.ntmps38
  go_wp2_with (first
    | (go_at_call 83
       (
         refine HI.out.mono ?_
         rintro e w3 ⟨vl, rfl, hvl, hb3⟩
         obtain ⟨pl', cl', rfl⟩ : ∃ p c, vl = .slice p l.length c := by obtain ⟨_, h, _⟩ := hvl; exact slices_of h
         obtain ⟨hB0, hx0⟩ := HB.out
         have hx3 := belowBlk hb3 (Array.getElem?_eq_some_iff.1 hx0).1 hx0
         have hB3 := below_trans hB0 hb3
         have hst4 := run_storeVar_row (P := Tryz.prog) w3 w.heap.size 26 26 _ #[.int .i64 4, .bool false, .int .i64 0, .string ⟨#[]⟩, .slice none 0 0, .slice pl' l.length cl'] hx3 (by kernel_rfl) rfl (by simp [Value.oneCell'])
         have hy5 := setRow_heap w3 w.heap.size _ #[.int .i64 4, .bool false, .int .i64 0, .string ⟨#[]⟩, .slice none 0 0, .slice pl' l.length cl'] 26 _ hx3
         have hoth5 := fun (g : Nat) (hg : w.heap.size + 1 ≤ g) => setRow_other w3 w.heap.size g #[.int .i64 4, .bool false, .int .i64 0, .string ⟨#[]⟩, .slice none 0 0, .slice pl' l.length cl'] (by omega)
         have hT5 : Touch (fun b => b = w.heap.size) w3 (w3.setRow w.heap.size #[.int .i64 4, .bool false, .int .i64 0, .string ⟨#[]⟩, .slice none 0 0, .slice pl' l.length cl']) := ⟨rfl, rfl, rfl, by simp, fun g _ hg => setRow_other w3 w.heap.size g _ hg⟩
         have hB5 : Below w.heap.size w (w3.setRow w.heap.size #[.int .i64 4, .bool false, .int .i64 0, .string ⟨#[]⟩, .slice none 0 0, .slice pl' l.length cl']) := hT5.below hB3 (fun b hb e => by omega) hB3.size
         have hvl5 : LOwn (w3.setRow w.heap.size #[.int .i64 4, .bool false, .int .i64 0, .string ⟨#[]⟩, .slice none 0 0, .slice pl' l.length cl']) (fun b => w.heap.size ≤ b) (.slice pl' l.length cl') l := by
           obtain ⟨xs, hl1, hl2⟩ := hvl
           simp only [World.size_alloc] at hl1 hl2
           exact ⟨xs, (hl1.keep (fun b hb _ => hoth5 b hb)).imp (fun b _ hb => by omega), (hl2.keep (fun b hb _ => hoth5 b hb)).imp (fun b _ hb => by omega)⟩
         have HF := Lib.hid (And.intro (get_val hy5) (And.intro hvl5 hB5))
         have HS4 := Lib.hid hst4
         generalize w3.setRow w.heap.size #[.int .i64 4, .bool false, .int .i64 0, .string ⟨#[]⟩, .slice none 0 0, .slice pl' l.length cl'] = w5 at *
         clear hvl hb3 hx3 hB3 hst4 hy5 hoth5 hT5 hB5 hvl5 hB0 hx0 HB HI))
    | (refine wpList_store rfl _ _ _ _ rfl rfl rfl HS4.out ?_))
  exact bodyPost_ret (results_cell_one rfl _ _ ⟨w.heap.size, 0, none⟩ _ rfl HF.out.1) rfl ⟨_, rfl, VOwn_iff.2 ⟨_, _, rfl, ⟨⟨rfl, .inl ⟨rfl, rfl⟩⟩, fun g hg => by simp [Value.ownBlock] at hg⟩, HF.out.2.1⟩, HF.out.2.2⟩
end Go.Proofs.YtnkaegdnjfpliaaGreatDoor

/-! value.all: the iterator over a value and all in it. -/
namespace Go.Proofs.YtnkaegdnjfpliaaGreatDoor
set_option linter.unusedSimpArgs false
set_option linter.unusedVariables false
open Go.RowKit

mutual
/-- A value and all in it, each with how deep it lies. -/
def preV (d : Nat) : V → List (Nat × V)
  | .mk k b n t ks l => (d, .mk k b n t ks l) :: preVs (d + 1) l
def preVs (d : Nat) : List V → List (Nat × V)
  | [] => []
  | a :: r => preV d a ++ preVs d r
end
theorem preV_eq (d : Nat) (v : V) : preV d v = (d, v) :: preVs (d + 1) v.list := by cases v; rw [preV]; rfl
theorem preVs_snoc (d : Nat) (v : V) : ∀ l : List V, preVs d (l ++ [v]) = preVs d l ++ preV d v := by
  intro l
  induction l with
  | nil => simp [preVs]
  | cons a r ih => rw [List.cons_append, preVs, preVs, ih, List.append_assoc]
theorem preVs_append (d : Nat) (m : List V) : ∀ l : List V, preVs d (l ++ m) = preVs d l ++ preVs d m := by
  intro l
  induction l with
  | nil => simp [preVs]
  | cons a r ih => rw [List.cons_append, preVs, preVs, ih, List.append_assoc]
/-- What is yielded: how deep, which value, its cells. -/
abbrev Yd := Nat × V × Array Value
def dv (e : Yd) : Nat × V := (e.1, e.2.1)
def encY (e : Yd) : Array Value := #[.int .i64 (e.1 : Int), .agg e.2.2]
/-- What may come so far. -/
def okY (w0 : World) (root : V) (pre : List Yd) : Prop := (∃ rest, preV 1 root = pre.map dv ++ rest) ∧ ∀ e ∈ pre, VRd w0 e.2.1 e.2.2
def doneY (w0 : World) (root : V) (pre : List Yd) : Prop := okY w0 root pre ∧ preV 1 root = pre.map dv
/-- The iterator's own two blocks. -/
def RecY (W : World) (n0 L : Nat) : Prop := W.heap[n0]? = some (.cells #[.func (.yield L) #[] #[]] 118 (0, 0)) ∧ W.heap[n0 + 1]? = some (.cells #[.func (.func 113) #[] #[.pointer (some ⟨n0, 0, none⟩), .pointer (some ⟨n0 + 1, 0, none⟩)]] 119 (0, 0))
/-- From n0 on blocks that lay stay. -/
def RestY (n0 : Nat) (W W' : World) : Prop := W.heap.size ≤ W'.heap.size ∧ ∀ b, n0 ≤ b → b < W.heap.size → W'.heap[b]? = W.heap[b]?
theorem RestY.refl (n0 : Nat) (W : World) : RestY n0 W W := ⟨Nat.le_refl _, fun _ _ _ => rfl⟩
theorem RestY.trans {n0 : Nat} {W W' W'' : World} (h : RestY n0 W W') (g : RestY n0 W' W'') : RestY n0 W W'' := ⟨Nat.le_trans h.1 g.1, fun b h1 h2 => (g.2 b h1 (Nat.lt_of_lt_of_le h2 h.1)).trans (h.2 b h1 h2)⟩
theorem RestY.of_below {n0 : Nat} {W W' : World} (h : Below W.heap.size W W') : RestY n0 W W' := ⟨h.size, fun b _ hb => h.block b hb⟩
theorem RestY.blk {n0 : Nat} {W W' : World} (h : RestY n0 W W') {b : Nat} {o : Obj} (hb : n0 ≤ b) (g : W.heap[b]? = some o) : W'.heap[b]? = some o := (h.2 b hb (Array.getElem?_eq_some_iff.1 g).1).trans g
theorem RecY.rest {n0 L : Nat} {W W' : World} (h : RecY W n0 L) (g : RestY n0 W W') : RecY W' n0 L := ⟨g.blk (Nat.le_refl _) h.1, g.blk (by omega) h.2⟩

section
variable {w0 : World} {root : V} {L n0 : Nat} {J : List Yd → World → Prop} {Jx : World → Prop}
/-- What a caller of yield owes and is owed. -/
structure CtxY (w0 : World) (root : V) (L n0 : Nat) (J : List Yd → World → Prop) (Jx : World → Prop) : Prop where
  pre : ∀ pre W, J pre W → Below w0.heap.size w0 W
  keep : ∀ pre W W', J pre W → n0 ≤ W.heap.size → Touch (fun b => n0 ≤ b) W W' → J pre W'
  yields : ∀ pre x W, okY w0 root (pre ++ [x]) → J pre W → n0 ≤ W.heap.size → Yields Tryz.prog L (encY x) W (fun e W' =>
      (∀ b, n0 ≤ b → b < W.heap.size → W'.heap[b]? = W.heap[b]?) ∧ W.heap.size ≤ W'.heap.size ∧ ((e = .returned (.bool true) ∧ J (pre ++ [x]) W') ∨ (e = .returned (.bool false) ∧ Jx W')))
/-- What going over a value does. -/
def GoesY (w0 : World) (root : V) (n0 : Nat) (J : List Yd → World → Prop) (Jx : World → Prop) (pre : List Yd) (ds : List (Nat × V)) (W : World) (e : Ending) (W' : World) : Prop :=
  RestY n0 W W' ∧ ∃ r, e = .returned (.bool r) ∧ (r = true → ∃ ys, okY w0 root (pre ++ ys) ∧ ys.map dv = ds ∧ J (pre ++ ys) W') ∧ (r = false → Jx W')
end

/-- Inside the loop over a value's list. -/
def LoopY (w0 : World) (root : V) (n0 L : Nat) (J : List Yd → World → Prop) (pre : List Yd) (e : Yd) (d : Nat) (done : List V) (W W' : World) : Prop :=
  ∃ ys, okY w0 root (pre ++ [e] ++ ys) ∧ ys.map dv = preVs (d + 1) done ∧ J (pre ++ [e] ++ ys) W' ∧ RecY W' n0 L ∧ RestY n0 W W'
theorem exec_yield {P : Program} {a : Act} {w : World} {o : Oper} {l : Nat} {fn : FuncId} {tmps : Array Value} {assign body : Code} {f : Operand} {xs : List Operand} {ts : Array TypeId} (vs : List Value) (ho : o.op = .call { callee := .value f, args := xs.toArray, argTypes := ts })
    (hf : a.eval f = .func (.yield l) #[] #[]) (hx : xs.map a.eval = vs) (hy : (Instr.yield l vs.toArray).run P w = .ok (.round l fn tmps assign body) w) : (execOp a.eval o).run P w = .ok (.round l fn tmps assign body) w := by
  unfold execOp
  simp only [ho, resolve, hf, List.map_toArray, hx, Deferred.ofValue, Sem.run_bind, Sem.run_pure, Result.andThen_ok, invoke, Array.empty_append, Array.append_empty]
  exact hy
set_option maxRecDepth 100000 in
set_option maxHeartbeats 4000000 in
theorem goes_any {w0 : World} {root : V} {L n0 : Nat} {J : List Yd → World → Prop} {Jx : World → Prop} (C : CtxY w0 root L n0 J Jx) (h0 : w0.heap.size ≤ n0) :
    ∀ (v : V) (d : Nat), d + totV v ≤ 140737488355328 → ∀ (pre : List Yd) (x : Array Value) (W : World), VRd w0 v x → okY w0 root pre → (∃ rest, preV 1 root = pre.map dv ++ (preV d v ++ rest)) → J pre W → RecY W n0 L →
      Calls Tryz.prog 113 #[.agg x, .int .i64 (d : Int), .pointer (some ⟨n0, 0, none⟩), .pointer (some ⟨n0 + 1, 0, none⟩)] W (GoesY w0 root n0 J Jx pre (preV d v) W) := by
  refine V.ind fun k b n t ks l ih => ?_
  intro d hd pre x W hx hok hrest hJ hR
  rw [totV_mk] at hd
  have hlen := totVs_length l
  have hN : n0 + 1 < W.heap.size := (Array.getElem?_eq_some_iff.1 hR.2).1
  have hx0 := hx
  obtain ⟨pk, ck, pl, cl, rfl, _, hk1, hl1⟩ := VRd_iff.1 hx
  have hT := OneB.start W #[.int .i64 k, .bool b, .int .i64 n, .string (strB t), .slice pk ks.length ck, .slice pl l.length cl]
  have hJ1 := C.keep _ _ _ hJ (by omega) (Touch.of_below hT.2 (fun b h1 h2 => absurd h1 (by omega)))
  have hR1 := hR.rest (RestY.of_below hT.2)
  obtain ⟨rest, hrest⟩ := hrest
  rw [preV] at hrest
  have hokE : okY w0 root (pre ++ [(d, V.mk k b n t ks l, #[.int .i64 k, .bool b, .int .i64 n, .string (strB t), .slice pk ks.length ck, .slice pl l.length cl])]) :=
    ⟨⟨preVs (d + 1) l ++ rest, by rw [hrest]; simp [dv]⟩, fun e he => by
      rcases List.mem_append.1 he with he | he
      · exact hok.2 e he
      · obtain rfl := List.mem_singleton.1 he; exact hx0⟩
  obtain ⟨yfn, ytmps, yas, ybody, hyr, hround⟩ := C.yields _ _ _ hokE hJ1 (by have := hT.2.size; omega)
  have z1 : (d : Int) ≤ 140737488355328 := by omega
  have z2 : (l.length : Int) ≤ 140737488355328 := by omega
  have HC := Lib.hid C
  have HI := Lib.hid (fun (a : V) (ha : a ∈ l) => ih a ha (d + 1) (by have := totVs_mem ha; omega))
  have HL := Lib.hid hl1
  have HR := Lib.hid hR1
  have HT := Lib.hid hT
  have HY := Lib.hid (And.intro hyr (And.intro hround (And.intro hokE hrest)))
  have HN := Lib.hid (And.intro hN h0)
  clear C ih hd hx hok hrest hJ hR hlen hk1 hl1 hT hJ1 hR1 hokE hyr hround hx0 h0 hN
  go_enter Tryz.func113, Tryz.ntmps113
  apply wp_seq_k
  intro K1 hK1
  have HK1 := Lib.hid hK1
  clear hK1
  go_wp2
  refine HK1.out _ _ ?_
  obtain ⟨hyr, hround, hokE, hrest⟩ := HY.out
  have hT := HT.out
  have hR1 := HR.out
  generalize W.alloc _ = W1 at *
  apply wp_seq_k
  intro _ _
  apply wp_seq_k
  intro K2 hK2
  have HK2 := Lib.hid hK2
  clear hK2 HK1
  refine yield_region ?_
  refine listRun rfl (fun _ h => by cases h) (v := .func (.yield L) #[] #[]) (exec_load rfl rfl (run_load1 Tryz.underlying118 rfl (cellOf hR1.1 rfl))) ?_
  simp only [Act.put, List.setIfInBounds_toArray, List.set_cons_zero, List.set_cons_succ]
  refine listRun rfl (fun _ h => by cases h) (v := .int .i64 (d : Int)) (exec_move rfl rfl) ?_
  simp only [Act.put, List.setIfInBounds_toArray, List.set_cons_zero, List.set_cons_succ]
  refine listRun rfl (fun _ h => by cases h) (v := .agg #[.int .i64 k, .bool b, .int .i64 n, .string (strB t), .slice pk ks.length ck, .slice pl l.length cl]) (exec_load rfl rfl (get_val hT.1)) ?_
  simp only [Act.put, List.setIfInBounds_toArray, List.set_cons_zero, List.set_cons_succ]
  refine listYield rfl (fun _ h => by cases h) (exec_yield [.int .i64 (d : Int), .agg #[.int .i64 k, .bool b, .int .i64 n, .string (strB t), .slice pk ks.length ck, .slice pl l.length cl]] rfl rfl rfl hyr) (hround.mono ?_)
  rintro e W2 ⟨hkeep, hsz, hcase⟩
  have hRest2 : RestY n0 W1 W2 := ⟨hsz, hkeep⟩
  have hRest : RestY n0 W W2 := (RestY.of_below hT.2).trans hRest2
  have hbx : W2.heap[W.heap.size]? = some (.cells #[.int .i64 k, .bool b, .int .i64 n, .string (strB t), .slice pk ks.length ck, .slice pl l.length cl] 26 (0, 0)) := hRest2.blk (by have := HN.out; omega) hT.1
  have hR2 := hR1.rest hRest2
  rcases hcase with ⟨rfl, hJ2⟩ | ⟨rfl, hX⟩
  · refine ⟨_, rfl, ?_⟩
    simp only [Act.put, List.setIfInBounds_toArray, List.set_cons_zero, List.set_cons_succ]
    refine listRun rfl (fun _ h => by cases h) (v := .bool false) (exec_unot (b := true) rfl rfl) ?_
    simp only [Act.put, List.setIfInBounds_toArray, List.set_cons_zero, List.set_cons_succ]
    refine wpListIn_nil (HK2.out _ _ ?_ : K2 _ _)
    have HF := Lib.hid (And.intro hRest (And.intro hbx (And.intro hR2 (And.intro hJ2 (And.intro hokE hrest)))))
    have p5 := cellOf (o := 5) hbx rfl
    clear hyr hround hokE hrest hkeep hsz hT hR1 hRest hRest2 hbx hR2 hJ2 HY HT HR HK2
    go_wp2
    clear p5
    go_loopw [17] (fun i W' => ∃ j : Nat, j ≤ l.length ∧ i = .int .i64 (j : Int) ∧ Hid (LoopY w0 root n0 L J pre (d, V.mk k b n t ks l, #[.int .i64 k, .bool b, .int .i64 n, .string (strB t), .slice pk ks.length ck, .slice pl l.length cl]) d (l.take j) W W')) (fun i _ => l.length - (intOf i).toNat)
    case atStart => exact ⟨0, Nat.zero_le _, rfl, Lib.hid ⟨[], by rw [List.append_nil]; exact HF.out.2.2.2.2.1, by rw [List.take_zero]; rfl, by rw [List.append_nil]; exact HF.out.2.2.2.1, HF.out.2.2.1, HF.out.1⟩⟩
    case round =>
      obtain ⟨j, hj, rfl, HJ⟩ := hrel
      by_cases hlt : j < l.length
      · have hlt1 : j + 1 ≤ l.length := hlt
        obtain ⟨ys, hok, hmap, hJ, hR, hRest⟩ := HJ.out
        have hB := HC.out.pre _ _ hJ
        obtain ⟨g1, o1, pk1, ck1, pl1, cl1, rfl, ⟨a0, a1, a2, a3, a4, a5⟩, hv1⟩ := HL.out.at hlt
        have b0 := belowCell hB (ltOf a0) a0
        have b1 := belowCell hB (ltOf a1) a1
        have b2 := belowCell hB (ltOf a2) a2
        have b3 := belowCell hB (ltOf a3) a3
        have b4 := belowCell hB (ltOf a4) a4
        have b5 := belowCell hB (ltOf a5) a5
        have q1 := cellOf (o := 0) hR.2 rfl
        have htk : l.take (j + 1) = l.take j ++ [l[j]] := List.take_succ_eq_append_getElem hlt
        have hmem := List.getElem_mem hlt
        have hpr : preVs (d + 1) l = preVs (d + 1) (l.take j) ++ (preV (d + 1) l[j] ++ preVs (d + 1) (l.drop (j + 1))) := by
          have e : l = l.take j ++ (l[j] :: l.drop (j + 1)) := by rw [← List.drop_eq_getElem_cons hlt, List.take_append_drop]
          have := congrArg (preVs (d + 1)) e
          rw [preVs_append, preVs] at this
          exact this
        have hcall := fun W' (hJ : J _ W') (hR : RecY W' n0 L) => HI.out l[j] hmem _ _ W' hv1 hok (by
          obtain ⟨rest2, hr2⟩ := (⟨rest, HF.out.2.2.2.2.2⟩ : ∃ rest, preV 1 root = _ ++ ((d, V.mk k b n t ks l) :: preVs (d + 1) l ++ rest))
          refine ⟨preVs (d + 1) (l.drop (j + 1)) ++ rest2, ?_⟩
          rw [hr2, hpr, List.map_append, List.map_append, hmap]
          simp [dv]) hJ hR
        generalize l[j] = s1 at *
        have q2 := belowCell (below_new (w := wr) (.cells #[.int .i64 s1.kind, .bool s1.b, .int .i64 s1.n, .string (strB s1.text), .slice pk1 s1.keys.length ck1, .slice pl1 s1.list.length cl1] 26)) (ltOf q1) q1
        have HD := Lib.hid (And.intro hcall (And.intro hmap (And.intro hJ (And.intro hR (And.intro hRest htk)))))
        clear hcall hok hmap hJ hR hRest hB hv1 htk hmem hpr a0 a1 a2 a3 a4 a5 HJ
        go_wp2_with (go_at_call 113
                     (
                       have hN1 : n0 + 1 < wr.heap.size := (Array.getElem?_eq_some_iff.1 HD.out.2.2.2.1.2).1
                       have hb8 := below_new (w := wr) (.cells #[.int .i64 s1.kind, .bool s1.b, .int .i64 s1.n, .string (strB s1.text), .slice pk1 s1.keys.length ck1, .slice pl1 s1.list.length cl1] 26)
                       refine (HD.out.1 _ (HC.out.keep _ _ _ HD.out.2.2.1 (by omega) (Touch.of_below hb8 (fun b h1 h2 => absurd h1 (by omega)))) (HD.out.2.2.2.1.rest (RestY.of_below hb8))).mono ?_
                       rintro e w3 ⟨hr3, r, rfl, ht, hf⟩
                       have HG := Lib.hid (And.intro ht (And.intro hf ((RestY.of_below hb8).trans hr3)))
                       clear hb8 hr3 ht hf))
        · go_ret
          cases r with
          | true => rename_i hh; exact absurd hh (by simp)
          | false => exact ⟨HD.out.2.2.2.2.1.trans HG.out.2.2, _, rfl, (fun h => by cases h), fun _ => HG.out.2.1 rfl⟩
        · cases r with
          | false => rename_i hh; exact absurd hh (by simp)
          | true =>
            obtain ⟨zs, hok3, hmap3, hJ3⟩ := HG.out.1 rfl
            have HF3 := Lib.hid (And.intro hok3 (And.intro hmap3 hJ3))
            clear hok3 hmap3 hJ3
            refine ⟨⟨j + 1, hlt1, by go_num, Lib.hid ⟨_ ++ zs, by rw [← List.append_assoc]; exact HF3.out.1, ?_, by rw [← List.append_assoc]; exact HF3.out.2.2, HD.out.2.2.2.1.rest HG.out.2.2, HD.out.2.2.2.2.1.trans HG.out.2.2⟩⟩, by simp [intOf]; omega⟩
            rw [List.map_append, HD.out.2.1, HF3.out.2.1, HD.out.2.2.2.2.2, preVs_append]
            simp [preVs]
      · obtain rfl : j = l.length := by omega
        have h := HJ.out
        rw [List.take_length] at h
        have HF2 := Lib.hid h
        clear h HJ
        go_wp2
        go_ret
        obtain ⟨ys, hok, hmap, hJ, hR, hRest⟩ := HF2.out
        refine ⟨hRest, true, rfl, fun _ => ⟨_ :: ys, by rw [List.append_assoc] at hok; exact hok, ?_, by rw [List.append_assoc] at hJ; exact hJ⟩, fun h => by cases h⟩
        rw [List.map_cons, hmap, preV]
        rfl
  · refine ⟨_, rfl, ?_⟩
    simp only [Act.put, List.setIfInBounds_toArray, List.set_cons_zero, List.set_cons_succ]
    refine listRun rfl (fun _ h => by cases h) (v := .bool true) (exec_unot (b := false) rfl rfl) ?_
    simp only [Act.put, List.setIfInBounds_toArray, List.set_cons_zero, List.set_cons_succ]
    refine wpListIn_nil (HK2.out _ _ ?_ : K2 _ _)
    have HF := Lib.hid (And.intro hRest hX)
    clear hyr hround hokE hrest hkeep hsz hT hR1 hRest hRest2 hbx hR2 hX HY HT HR HK2
    go_wp2
    go_ret
    exact ⟨HF.out.1, _, rfl, (fun h => by cases h), fun _ => HF.out.2⟩

theorem put_goes {w : World} {ad p q : Addr} {u : Value} (hc : w.cell? ad = some u) (hf : w.frozen? ad = false) :
    (storeVar 119 ad (.func (.func 113) #[] #[.pointer (some p), .pointer (some q)])).run Tryz.prog w = .ok () (w.setCell ad (.func (.func 113) #[] #[.pointer (some p), .pointer (some q)])) := by
  have h := run_store Tryz.prog w ad (.func (.func 113) #[] #[.pointer (some p), .pointer (some q)]) .plain rfl
  have e : (Value.func (.func 113) #[] #[.pointer (some p), .pointer (some q)]).cells = #[Value.func (.func 113) #[] #[.pointer (some p), .pointer (some q)]] := rfl
  simp [storeVar, go_sem, e, storeCells, h, stored, hc, hf, Addr.add]
set_option maxRecDepth 100000 in
set_option maxHeartbeats 2000000 in
theorem iter_all {w0 : World} {root : V} {x : Array Value} (B : Nat) (hx : VRd w0 root x) (ht : totV root ≤ 140737488355327) :
    IterA Tryz.prog 112 #[.pointer (some ⟨B, 0, none⟩)] encY (okY w0 root) (doneY w0 root) (fun W => Below w0.heap.size w0 W ∧ W.heap[B]? = some (.cells x 26 (0, 0))) := by
  intro L J Jx w hlt hpre hkeep hY h0
  obtain ⟨hb0, hB⟩ := hpre _ _ h0
  have hBlt := (Array.getElem?_eq_some_iff.1 hB).1
  have hC : CtxY w0 root L w.heap.size J Jx := ⟨fun pre W h => (hpre pre W h).1, hkeep, hY⟩
  obtain ⟨pk, ck, pl, cl, rfl, _⟩ := hx.open
  have hA : ((w.alloc (.cells #[.func (.yield L) #[] #[]] 118)).alloc (.cells #[.nilFunc] 119)).heap[w.heap.size + 1]? = some (.cells #[.nilFunc] 119 (0, 0)) := by
    simp only [heap_get_alloc, World.size_alloc]; rw [if_pos trivial]
  have hA0 : ((w.alloc (.cells #[.func (.yield L) #[] #[]] 118)).alloc (.cells #[.nilFunc] 119)).heap[w.heap.size]? = some (.cells #[.func (.yield L) #[] #[]] 118 (0, 0)) := by
    simp only [heap_get_alloc, World.size_alloc]; rw [if_neg (by omega), if_pos trivial]
  have hAb : Below w.heap.size w ((w.alloc (.cells #[.func (.yield L) #[] #[]] 118)).alloc (.cells #[.nilFunc] 119)) := (below_new _).alloc (by simp) _
  have hst := put_goes (p := ⟨w.heap.size, 0, none⟩) (q := ⟨w.heap.size + 1, 0, none⟩) (cellOf (o := 0) hA rfl) (freeOf (o := 0) hA)
  have hR : RecY (((w.alloc (.cells #[.func (.yield L) #[] #[]] 118)).alloc (.cells #[.nilFunc] 119)).setCell ⟨w.heap.size + 1, 0, none⟩ (.func (.func 113) #[] #[.pointer (some ⟨w.heap.size, 0, none⟩), .pointer (some ⟨w.heap.size + 1, 0, none⟩)])) w.heap.size L :=
    ⟨(Below.heap_setCell _ _ _ _ (by show w.heap.size ≠ w.heap.size + 1; omega)).trans hA0, box_set _ hA⟩
  have hbW : Below w.heap.size w (((w.alloc (.cells #[.func (.yield L) #[] #[]] 118)).alloc (.cells #[.nilFunc] 119)).setCell ⟨w.heap.size + 1, 0, none⟩ (.func (.func 113) #[] #[.pointer (some ⟨w.heap.size, 0, none⟩), .pointer (some ⟨w.heap.size + 1, 0, none⟩)])) := belowSet hAb (by omega) _
  have HS := Lib.hid hst
  clear hst hA hA0 hAb
  generalize ((w.alloc (.cells #[.func (.yield L) #[] #[]] 118)).alloc (.cells #[.nilFunc] 119)).setCell ⟨w.heap.size + 1, 0, none⟩ (.func (.func 113) #[] #[.pointer (some ⟨w.heap.size, 0, none⟩), .pointer (some ⟨w.heap.size + 1, 0, none⟩)]) = W2 at *
  have hbox := belowBlk hbW hBlt hB
  have hJ := hkeep _ _ _ h0 (Nat.le_refl _) (Touch.of_below hbW (fun b h1 h2 => absurd h1 (by omega)))
  have hcall := goes_any hC hb0.size root 1 (by omega) [] _ _ hx ⟨⟨preV 1 root, rfl⟩, fun e he => by simp at he⟩ ⟨[], by simp⟩ hJ hR
  have HCall := Lib.hid hcall
  have HV := Lib.hid (get_val hbox)
  have HL := Lib.hid (run_load1 (P := Tryz.prog) Tryz.underlying119 rfl (cellOf (o := 0) hR.2 rfl))
  clear hcall hbox hR hJ hC hpre hkeep hY h0 hx hB hb0
  refine callsIn_of_wp Tryz.func112 rfl trivial ?_ rfl
  refine (wpIn_wide (n := 0)).2 ?_
  simp only [Tryz.ntmps112, List.size_toArray, List.length_cons, List.length_nil, Nat.reduceAdd, Nat.reduceSub, Array.replicate_succ, Array.replicate_zero, List.push_toArray, List.append_toArray, List.nil_append, List.cons_append]
  go_wp2_with (first
    | (refine wpList_store rfl _ _ _ _ rfl rfl rfl HS.out ?_)
    | (refine wpList_load rfl _ _ _ rfl rfl HL.out ?_)
    | (refine wpList_load rfl _ _ _ rfl rfl HV.out ?_)
    | (go_at_call 113
       (
         refine HCall.out.mono ?_
         rintro e w3 ⟨_, r, rfl, ht, hf⟩
         have HG := Lib.hid (And.intro ht hf)
         clear ht hf)))
  go_end0
  refine ⟨rfl, ?_⟩
  cases r with
  | true =>
    obtain ⟨ys, h1, h2, h3⟩ := HG.out.1 rfl
    exact .inl ⟨ys, ⟨h1, h2.symm⟩, h3⟩
  | false => exact .inr (HG.out.2 rfl)
end Go.Proofs.YtnkaegdnjfpliaaGreatDoor
