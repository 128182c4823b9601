/- value.compare. Printed by gen_vcmp2.py. -/
import Derived.Test.YtnkaegdnjfpliaaGreatDoorVcmp
namespace Go.Proofs.YtnkaegdnjfpliaaGreatDoor
set_option linter.unusedSimpArgs false
set_option linter.unusedVariables false
open Go.RowKit

theorem fa_value (y k : Nat) (hk : k < 6) (W : World) : (Instr.fieldAt 26 (.pointer (some ⟨y, 0, none⟩)) k).run Tryz.prog W = .ok (.pointer (some ⟨y, k, none⟩)) W := by
  have : k = 0 ∨ k = 1 ∨ k = 2 ∨ k = 3 ∨ k = 4 ∨ k = 5 := by omega
  rcases this with rfl | rfl | rfl | rfl | rfl | rfl <;> simp [go_sem]
theorem listsS_any {w : World} {p1 p2 : Option Addr} {c1 c2 : Nat} {l1 l2 : List (List UInt8)} (h1 : RdS w p1 c1 l1) (h2 : RdS w p2 c2 l2) :
    Calls Tryz.prog 97 #[.slice p1 l1.length c1, .slice p2 l2.length c2, .func (.func 82) #[] #[]] w fun e w' => e = .returned (.int .i64 (cmpL cmpB l1 l2)) ∧ w = w' := by
  have HC := Lib.hid (cmpkeys_any h1 h2)
  clear h1 h2
  go_enter Tryz.func97, Tryz.ntmps97
  go_wp2_with (go_at_call 119; refine HC.out.mono ?_; rintro e w' ⟨rfl, rfl⟩)
  go_ret
  exact ⟨rfl, rfl⟩
theorem listsV_any {w : World} {p1 p2 : Option Addr} {c1 c2 : Nat} {l1 l2 : List V} (h1 : LRd w p1 c1 l1) (h2 : LRd w p2 c2 l2) (f : V → V → Int)
    (hc : ∀ a ∈ l1, ∀ b ∈ l2, ∀ x y W, VRd W a x → VRd W b y → Calls Tryz.prog 63 #[.agg x, .agg y] W fun e w' => e = .returned (.int .i64 (f a b)) ∧ Below W.heap.size W w') :
    Calls Tryz.prog 87 #[.slice p1 l1.length c1, .slice p2 l2.length c2, .func (.func 63) #[] #[]] w fun e w' => e = .returned (.int .i64 (cmpL f l1 l2)) ∧ Below w.heap.size w w' := by
  have HC := Lib.hid (cmpvals_any h1 h2 _ rfl f hc)
  clear h1 h2 hc
  go_enter Tryz.func87, Tryz.ntmps87
  go_wp2_with (go_at_call 115; refine HC.out.mono ?_; rintro e w2 ⟨rfl, hb⟩; have HB := Lib.hid hb; clear hb)
  go_ret
  exact ⟨rfl, HB.out⟩

theorem exec_buildSlice3 {P : Program} {a : Act} {w w' : World} {o : Oper} {v : Value} {t : TypeId} {n i0 i1 i2 : Nat} {x0 x1 x2 : Operand} {u0 u1 u2 : Value} (ho : o.op = .buildSlice t n #[(i0, x0), (i1, x1), (i2, x2)]) (h0 : a.eval x0 = u0) (h1 : a.eval x1 = u1) (h2 : a.eval x2 = u2)
    (hr : (Instr.buildSlice t n #[(i0, u0), (i1, u1), (i2, u2)]).run P w = .ok v w') : (execOp a.eval o).run P w = .ok (.value v) w' := exec_buildSlice ho (by simp [h0, h1, h2]) hr
/-- Two values lie in boxes. -/
def TwoV (w W : World) (x y : Array Value) : Prop := W.heap[w.heap.size]? = some (.cells x 26 (0, 0)) ∧ W.heap[w.heap.size + 1]? = some (.cells y 26 (0, 0)) ∧ Below w.heap.size w W
theorem TwoV.below {w W W' : World} {x y : Array Value} (h : TwoV w W x y) (g : Below W.heap.size W W') : TwoV w W' x y :=
  ⟨belowBlk g (Array.getElem?_eq_some_iff.1 h.1).1 h.1, belowBlk g (Array.getElem?_eq_some_iff.1 h.2.1).1 h.2.1, below_trans h.2.2 g⟩
theorem TwoV.start (w : World) (x y : Array Value) : TwoV w ((w.alloc (.cells x 26)).alloc (.cells y 26)) x y := by
  refine ⟨?_, ?_, (below_new _).alloc (by simp) _⟩
  · simp only [heap_get_alloc, World.size_alloc]; rw [if_neg (by omega), if_pos trivial]
  · simp only [heap_get_alloc, World.size_alloc]; rw [if_pos trivial]

set_option maxRecDepth 100000 in
set_option maxHeartbeats 4000000 in
theorem compare_any {u : List UInt8 → Bool} : ∀ a : V, mayV u a = true → ∀ b : V, mayV u b = true → ∀ {w : World} {x y : Array Value}, VRd w a x → VRd w b y →
    Calls Tryz.prog 63 #[.agg x, .agg y] w fun e w' => e = .returned (.int .i64 (cmpV a b)) ∧ Below w.heap.size w w' := by
  refine V.ind fun k b n t ks l ih => ?_
  intro ha v hb w x y hx hy
  obtain ⟨ha1, ha2⟩ := mayV_iff.1 ha
  obtain ⟨hb1, hb2⟩ := mayV_iff.1 hb
  have f1 := oneV_iff.1 ha1
  have f2 := oneV_iff.1 hb1
  obtain ⟨pk, ck, pl, cl, rfl, _, hk1, hl1⟩ := hx.open
  obtain ⟨pk', ck', pl', cl', rfl, _, hk2, hl2⟩ := hy.open
  have hrank := @cmpV_rank (.mk k b n t ks l) v
  have hbool := cmpV_bool f1 f2
  have htext := cmpV_text f1 f2
  have hrest := cmpV_rest f1 f2
  have hinj : rankV k = rankV v.kind → k = v.kind := rankV_inj f1.lo f1.hi f2.lo f2.hi
  cases v with
  | mk k' b' n' t' ks' l' =>
  simp only [V.kind, V.b, V.n, V.text, V.keys, V.list] at *
  have hihl : ∀ a ∈ l, ∀ b ∈ l', ∀ x y W, VRd W a x → VRd W b y → Calls Tryz.prog 63 #[.agg x, .agg y] W fun e w' => e = .returned (.int .i64 (cmpV a b)) ∧ Below W.heap.size W w' := fun a ha b hb x y W hx hy => ih a ha (ha2 a ha) b (hb2 b hb) hx hy
  generalize cmpV (.mk k b n t ks l) (.mk k' b' n' t' ks' l') = R at *
  have hT := TwoV.start w #[.int .i64 k, .bool b, .int .i64 n, .string (strB t), .slice pk ks.length ck, .slice pl l.length cl] #[.int .i64 k', .bool b', .int .i64 n', .string (strB t'), .slice pk' ks'.length ck', .slice pl' l'.length cl']
  have H1 := Lib.hid (And.intro hk1 (And.intro hk2 (And.intro hl1 hl2)))
  have H2 := Lib.hid (And.intro hrank (And.intro hbool (And.intro htext (And.intro hrest hinj))))
  have HI := Lib.hid hihl
  have HT := Lib.hid hT
  clear ih ha hb ha1 ha2 hb1 hb2 f1 f2 hx hy hk1 hk2 hl1 hl2 hrank hbool htext hrest hinj hihl hT
  go_enter Tryz.func63, Tryz.ntmps63
  go_wp2
  have hT := HT.out
  generalize (w.alloc _).alloc _ = W0 at *
  have hT0 := hT.below (Below.refl _ _).drew
  refine plain_region_draws (fun W => TwoV w W #[.int .i64 k, .bool b, .int .i64 n, .string (strB t), .slice pk ks.length ck, .slice pl l.length cl] #[.int .i64 k', .bool b', .int .i64 n', .string (strB t'), .slice pk' ks'.length ck', .slice pl' l'.length cl']) (by kernel_rfl) hT0 (fun hU0 => ?_)
  refine take 0 6 (v := .pointer (some ⟨w.heap.size, 0, none⟩)) rfl rfl (by kernel_rfl) (by kernel_rfl) (by kernel_rfl) rfl (fun W hW => exec_fieldAddr rfl rfl (fa_value _ _ (by decide) W)) (by assumption) ?_
  simp only [Act.put, List.setIfInBounds_toArray, List.set_cons_zero, List.set_cons_succ]
  refine take 1 7 (v := .int .i64 k) rfl rfl (by kernel_rfl) (by kernel_rfl) (by kernel_rfl) rfl (fun W hW => exec_load rfl rfl (run_load1 (w := W) Tryz.underlying22 rfl (cellOf hW.1 rfl))) (by assumption) ?_
  simp only [Act.put, List.setIfInBounds_toArray, List.set_cons_zero, List.set_cons_succ]
  refine take 3 9 (v := .pointer (some ⟨w.heap.size + 1, 0, none⟩)) rfl rfl (by kernel_rfl) (by kernel_rfl) (by kernel_rfl) rfl (fun W hW => exec_fieldAddr rfl rfl (fa_value _ _ (by decide) W)) (by assumption) ?_
  simp only [Act.put, List.setIfInBounds_toArray, List.set_cons_zero, List.set_cons_succ]
  refine take 4 10 (v := .int .i64 k') rfl rfl (by kernel_rfl) (by kernel_rfl) (by kernel_rfl) rfl (fun W hW => exec_load rfl rfl (run_load1 (w := W) Tryz.underlying22 rfl (cellOf hW.2.1 rfl))) (by assumption) ?_
  simp only [Act.put, List.setIfInBounds_toArray, List.set_cons_zero, List.set_cons_succ]
  refine onlyCall 2 8 rfl rfl (by kernel_rfl) rfl (exec_call [.int .i64 k] rfl rfl Tryz.func94 (by kernel_rfl) (by kernel_rfl)) ?_
  refine (rank_any _ _).mono ?_
  rintro e w' ⟨rfl, rfl⟩
  refine ⟨_, rfl, .inr hU0, ?_⟩
  simp only [Act.put, List.setIfInBounds_toArray, List.set_cons_zero, List.set_cons_succ]
  refine onlyCall 5 11 rfl rfl (by kernel_rfl) rfl (exec_call [.int .i64 k'] rfl rfl Tryz.func94 (by kernel_rfl) (by kernel_rfl)) ?_
  refine (rank_any _ _).mono ?_
  rintro e w' ⟨rfl, rfl⟩
  refine ⟨_, rfl, .inr hU0, ?_⟩
  simp only [Act.put, List.setIfInBounds_toArray, List.set_cons_zero, List.set_cons_succ]
  refine onlyCall 6 12 rfl rfl (by kernel_rfl) rfl (exec_call [.int .i64 (rankV k), .int .i64 (rankV k')] rfl rfl Tryz.func93 (by kernel_rfl) (by kernel_rfl)) ?_
  refine (cmp_any _ _ _).mono ?_
  rintro e w' ⟨rfl, rfl⟩
  refine ⟨_, rfl, .inr hU0, ?_⟩
  simp only [Act.put, List.setIfInBounds_toArray, List.set_cons_zero, List.set_cons_succ]
  refine take 7 5 (v := .int .i64 (cmpI (rankV k) (rankV k'))) rfl rfl (by kernel_rfl) (by kernel_rfl) (by kernel_rfl) rfl (fun W hW => exec_assign rfl rfl) (by assumption) ?_
  simp only [Act.put, List.setIfInBounds_toArray, List.set_cons_zero, List.set_cons_succ]
  refine done (by kernel_rfl) ?_ _
  clear hU0 hT0
  have c0 := cellOf (o := 0) hT.1 rfl
  have c1 := cellOf (o := 1) hT.1 rfl
  have c3 := cellOf (o := 3) hT.1 rfl
  have q1 := cellOf (o := 1) hT.2.1 rfl
  have q3 := cellOf (o := 3) hT.2.1 rfl
  by_cases hr : cmpI (rankV k) (rankV k') = 0
  · have d : (cmpI (rankV k) (rankV k') != 0) = false := by simp [hr]
    obtain rfl : k = k' := H2.out.2.2.2.2 (cmpI_zero hr)
    have HT := Lib.hid hT
    clear hT hr
    by_cases e1 : k = 1
    · subst e1
      have HR := Lib.hid (H2.out.2.1 rfl rfl)
      go_wp2_with (go_at_call 95; refine (truths_any _ _ _).mono ?_; rintro e w3 ⟨rfl, hb3⟩; have HB := Lib.hid hb3; clear hb3)
      go_ret
      exact ⟨ret_int HR.out.symm, below_trans (below_trans HT.out.2.2 (Below.refl _ _).drew) HB.out⟩
    · by_cases e3 : k = 3
      · subst e3
        have HR := Lib.hid (H2.out.2.2.1 rfl rfl)
        go_wp2_with (go_at_call 82; refine (strcmp_any _ _ _).mono ?_; rintro e w3 ⟨rfl, rfl⟩)
        go_ret
        exact ⟨ret_int HR.out.symm, below_trans HT.out.2.2 (Below.refl _ _).drew⟩
      · have d1 : (k == 1) = false := by simpa using e1
        have d3 : (k == 3) = false := by simpa using e3
        have HR := Lib.hid (H2.out.2.2.2.1 rfl e1 e3)
        clear e1 e3
        go_wp2
        have hT1 := HT.out.below (Below.refl _ _).drew
        have hT2 := hT1.below (Below.refl _ _).drew
        refine plain_region_draws (fun W => TwoV w W #[.int .i64 k, .bool b, .int .i64 n, .string (strB t), .slice pk ks.length ck, .slice pl l.length cl] #[.int .i64 k, .bool b', .int .i64 n', .string (strB t'), .slice pk' ks'.length ck', .slice pl' l'.length cl']) (by kernel_rfl) hT2 (fun hU0 => ?_)
        refine take 0 32 (v := .pointer (some ⟨w.heap.size, 4, none⟩)) rfl rfl (by kernel_rfl) (by kernel_rfl) (by kernel_rfl) rfl (fun W hW => exec_fieldAddr rfl rfl (fa_value _ _ (by decide) W)) (by assumption) ?_
        simp only [Act.put, List.setIfInBounds_toArray, List.set_cons_zero, List.set_cons_succ]
        refine take 1 33 (v := .slice pk ks.length ck) rfl rfl (by kernel_rfl) (by kernel_rfl) (by kernel_rfl) rfl (fun W hW => exec_load rfl rfl (run_load1 (w := W) Tryz.underlying23 rfl (cellOf hW.1 rfl))) (by assumption) ?_
        simp only [Act.put, List.setIfInBounds_toArray, List.set_cons_zero, List.set_cons_succ]
        refine take 2 34 (v := .pointer (some ⟨w.heap.size + 1, 4, none⟩)) rfl rfl (by kernel_rfl) (by kernel_rfl) (by kernel_rfl) rfl (fun W hW => exec_fieldAddr rfl rfl (fa_value _ _ (by decide) W)) (by assumption) ?_
        simp only [Act.put, List.setIfInBounds_toArray, List.set_cons_zero, List.set_cons_succ]
        refine take 3 35 (v := .slice pk' ks'.length ck') rfl rfl (by kernel_rfl) (by kernel_rfl) (by kernel_rfl) rfl (fun W hW => exec_load rfl rfl (run_load1 (w := W) Tryz.underlying23 rfl (cellOf hW.2.1 rfl))) (by assumption) ?_
        simp only [Act.put, List.setIfInBounds_toArray, List.set_cons_zero, List.set_cons_succ]
        refine take 5 37 (v := .pointer (some ⟨w.heap.size, 5, none⟩)) rfl rfl (by kernel_rfl) (by kernel_rfl) (by kernel_rfl) rfl (fun W hW => exec_fieldAddr rfl rfl (fa_value _ _ (by decide) W)) (by assumption) ?_
        simp only [Act.put, List.setIfInBounds_toArray, List.set_cons_zero, List.set_cons_succ]
        refine take 6 38 (v := .slice pl l.length cl) rfl rfl (by kernel_rfl) (by kernel_rfl) (by kernel_rfl) rfl (fun W hW => exec_load rfl rfl (run_load1 (w := W) Tryz.underlying24 rfl (cellOf hW.1 rfl))) (by assumption) ?_
        simp only [Act.put, List.setIfInBounds_toArray, List.set_cons_zero, List.set_cons_succ]
        refine take 7 39 (v := .pointer (some ⟨w.heap.size + 1, 5, none⟩)) rfl rfl (by kernel_rfl) (by kernel_rfl) (by kernel_rfl) rfl (fun W hW => exec_fieldAddr rfl rfl (fa_value _ _ (by decide) W)) (by assumption) ?_
        simp only [Act.put, List.setIfInBounds_toArray, List.set_cons_zero, List.set_cons_succ]
        refine take 8 40 (v := .slice pl' l'.length cl') rfl rfl (by kernel_rfl) (by kernel_rfl) (by kernel_rfl) rfl (fun W hW => exec_load rfl rfl (run_load1 (w := W) Tryz.underlying24 rfl (cellOf hW.2.1 rfl))) (by assumption) ?_
        simp only [Act.put, List.setIfInBounds_toArray, List.set_cons_zero, List.set_cons_succ]
        refine take 10 42 (v := .pointer (some ⟨w.heap.size, 2, none⟩)) rfl rfl (by kernel_rfl) (by kernel_rfl) (by kernel_rfl) rfl (fun W hW => exec_fieldAddr rfl rfl (fa_value _ _ (by decide) W)) (by assumption) ?_
        simp only [Act.put, List.setIfInBounds_toArray, List.set_cons_zero, List.set_cons_succ]
        refine take 11 43 (v := .int .i64 n) rfl rfl (by kernel_rfl) (by kernel_rfl) (by kernel_rfl) rfl (fun W hW => exec_load rfl rfl (run_load1 (w := W) Tryz.underlying2 rfl (cellOf hW.1 rfl))) (by assumption) ?_
        simp only [Act.put, List.setIfInBounds_toArray, List.set_cons_zero, List.set_cons_succ]
        refine take 12 44 (v := .pointer (some ⟨w.heap.size + 1, 2, none⟩)) rfl rfl (by kernel_rfl) (by kernel_rfl) (by kernel_rfl) rfl (fun W hW => exec_fieldAddr rfl rfl (fa_value _ _ (by decide) W)) (by assumption) ?_
        simp only [Act.put, List.setIfInBounds_toArray, List.set_cons_zero, List.set_cons_succ]
        refine take 13 45 (v := .int .i64 n') rfl rfl (by kernel_rfl) (by kernel_rfl) (by kernel_rfl) rfl (fun W hW => exec_load rfl rfl (run_load1 (w := W) Tryz.underlying2 rfl (cellOf hW.2.1 rfl))) (by assumption) ?_
        simp only [Act.put, List.setIfInBounds_toArray, List.set_cons_zero, List.set_cons_succ]
        refine onlyCall 4 36 rfl rfl (by kernel_rfl) rfl (exec_call [.slice pk ks.length ck, .slice pk' ks'.length ck', .func (.func 82) #[] #[]] rfl rfl Tryz.func97 (by kernel_rfl) (by kernel_rfl)) ?_
        refine (listsS_any ((H1.out.1.below HT.out.2.2).below (Below.refl _ _).drew |>.below (Below.refl _ _).drew) ((H1.out.2.1.below HT.out.2.2).below (Below.refl _ _).drew |>.below (Below.refl _ _).drew)).mono ?_
        rintro e w' ⟨rfl, rfl⟩
        refine ⟨_, rfl, .inr hU0, ?_⟩
        simp only [Act.put, List.setIfInBounds_toArray, List.set_cons_zero, List.set_cons_succ]
        refine onlyCall 9 41 rfl rfl (by kernel_rfl) rfl (exec_call [.slice pl l.length cl, .slice pl' l'.length cl', .func (.func 63) #[] #[]] rfl rfl Tryz.func87 (by kernel_rfl) (by kernel_rfl)) ?_
        refine (listsV_any ((H1.out.2.2.1.below HT.out.2.2).below (Below.refl _ _).drew |>.below (Below.refl _ _).drew) ((H1.out.2.2.2.below HT.out.2.2).below (Below.refl _ _).drew |>.below (Below.refl _ _).drew) cmpV HI.out).mono ?_
        rintro e w4 ⟨rfl, hb4⟩
        have hU1 := hU0.below hb4
        refine ⟨_, rfl, .inr hU1, ?_⟩
        simp only [Act.put, List.setIfInBounds_toArray, List.set_cons_zero, List.set_cons_succ]
        refine onlyCall 14 46 rfl rfl (by kernel_rfl) rfl (exec_call [.int .i64 n, .int .i64 n'] rfl rfl Tryz.func98 (by kernel_rfl) (by kernel_rfl)) ?_
        refine (cmp64_any _ _ _).mono ?_
        rintro e w' ⟨rfl, rfl⟩
        refine ⟨_, rfl, .inr hU1, ?_⟩
        simp only [Act.put, List.setIfInBounds_toArray, List.set_cons_zero, List.set_cons_succ]
        have hU2 : TwoV w (w4.alloc (.cells #[.int .i64 (cmpL cmpB ks ks'), .int .i64 (cmpL cmpV l l'), .int .i64 (cmpI n n')] 3)) #[.int .i64 k, .bool b, .int .i64 n, .string (strB t), .slice pk ks.length ck, .slice pl l.length cl] #[.int .i64 k, .bool b', .int .i64 n', .string (strB t'), .slice pk' ks'.length ck', .slice pl' l'.length cl'] := hU1.below (below_new _)
        have hbs : (Instr.buildSlice 89 3 #[(0, .int .i64 (cmpL cmpB ks ks')), (1, .int .i64 (cmpL cmpV l l')), (2, .int .i64 (cmpI n n'))]).run Tryz.prog w4 = .ok (.slice (some ⟨w4.heap.size, 0, none⟩) 3 3) (w4.alloc (.cells #[.int .i64 (cmpL cmpB ks ks'), .int .i64 (cmpL cmpV l l'), .int .i64 (cmpI n n')] 3)) := by simp [go_sem]
        refine onlyRun 15 47 (v := .slice (some ⟨w4.heap.size, 0, none⟩) 3 3) rfl rfl (by kernel_rfl) rfl (exec_buildSlice3 rfl rfl rfl rfl hbs) (.inr hU2) ?_
        simp only [Act.put, List.setIfInBounds_toArray, List.set_cons_zero, List.set_cons_succ]
        refine onlyCall 16 48 rfl rfl (by kernel_rfl) rfl (exec_call [.slice (some ⟨w4.heap.size, 0, none⟩) 3 3] rfl rfl Tryz.func96 (by kernel_rfl) (by kernel_rfl)) ?_
        refine (or_any (cmpL cmpB ks ks') (cmpL cmpV l l') (cmpI n n') _ w4.heap.size (cellOf (heap_alloc_new _ _) rfl) (cellOf (heap_alloc_new _ _) rfl) (cellOf (heap_alloc_new _ _) rfl)).mono ?_
        rintro e w' ⟨rfl, rfl⟩
        have hU3 := hU2
        refine ⟨_, rfl, .inr hU2, ?_⟩
        simp only [Act.put, List.setIfInBounds_toArray, List.set_cons_zero, List.set_cons_succ]
        refine take 17 4 (v := .int .i64 (orI (cmpL cmpB ks ks') (orI (cmpL cmpV l l') (cmpI n n')))) rfl rfl (by kernel_rfl) (by kernel_rfl) (by kernel_rfl) rfl (fun W hW => exec_assign rfl rfl) (by assumption) ?_
        simp only [Act.put, List.setIfInBounds_toArray, List.set_cons_zero, List.set_cons_succ]
        refine done (by kernel_rfl) ?_ _
        have HF := Lib.hid hU3.2.2
        clear hU0 hU1 hU2 hU3 hT1 hT2 hbs
        generalize World.alloc _ _ = W9 at *
        go_wp2
        go_ret
        exact ⟨ret_int HR.out.symm, HF.out⟩
  · have d : (cmpI (rankV k) (rankV k') != 0) = true := by simpa using hr
    have HR := Lib.hid (H2.out.1 hr)
    have HT := Lib.hid hT
    clear hT hr
    go_wp2
    go_ret
    exact ⟨ret_int HR.out.symm, below_trans HT.out.2.2 (Below.refl _ _).drew⟩
end Go.Proofs.YtnkaegdnjfpliaaGreatDoor
