/- ValueOrders: for every two values the law returns true, and the arguments read as they did. The listed tables of Go's library read as the program's text lays them. -/
import Derived.Test.YtnkaegdnjfpliaaGreatDoorGE
import Derived.Test.YtnkaegdnjfpliaaGreatDoorGC
import Derived.Test.YtnkaegdnjfpliaaGreatDoorCards
import Derived.Test.YtnkaegdnjfpliaaGreatDoorTie
/-! The law ValueOrders. Printed by gen_orders.py. -/
namespace Go.Proofs.YtnkaegdnjfpliaaGreatDoor
set_option linter.unusedSimpArgs false
set_option linter.unusedVariables false
open Go.RowKit

theorem exec_neg {P : Program} {a : Act} {w : World} {o : Oper} {t : TypeId} {x : Operand} {n m : Int} (ho : o.op = .unOp .neg t x) (hx : a.eval x = .int .i64 n) (hm : IntKind.i64.wrap (-n) = m) : (execOp a.eval o).run P w = .ok (.value (.int .i64 m)) w := by
  unfold execOp; rw [ho]; simp only [hx]; simp [go_sem, hm]
section
variable {w W : World} {X Y : Array Value} {a b : V} {p q : Nat} {x y : Array Value}
theorem OrdU.cmp1 (h : OrdU w X Y a b p q x y W) (hE : Env w) (ht : totV a + totV b ≤ 1000000) {C : Int} (hC : (if okV a && okV b then cmpV a b else 0) = C) : Calls Tryz.prog 20 #[.agg x, .agg y] W fun e w' => e = .returned (.int .i64 C) ∧ OrdU w X Y a b p q x y w' :=
  (comparePub_any (hE.b h.two.2.2) (h.rm (by omega)) (h.rn (by omega)) (by omega)).mono fun _ _ h' => by rw [hC] at h'; exact ⟨h'.1, h.keep h'.2⟩
theorem OrdU.cmp2 (h : OrdU w X Y a b p q x y W) (hE : Env w) (ht : totV a + totV b ≤ 1000000) {C : Int} (hC : (if okV b && okV a then cmpV b a else 0) = C) : Calls Tryz.prog 20 #[.agg y, .agg x] W fun e w' => e = .returned (.int .i64 C) ∧ OrdU w X Y a b p q x y w' :=
  (comparePub_any (hE.b h.two.2.2) (h.rn (by omega)) (h.rm (by omega)) (by omega)).mono fun _ _ h' => by rw [hC] at h'; exact ⟨h'.1, h.keep h'.2⟩
theorem OrdU.same (h : OrdU w X Y a b p q x y W) (hE : Env w) (ht : totV a + totV b ≤ 1000000) {s : Bool} (hs : (okV a && okV b && decide (cmpV a b = 0)) = s) : Calls Tryz.prog 21 #[.agg x, .agg y] W fun e w' => e = .returned (.bool s) ∧ Below W.heap.size W w' :=
  (same_any (hE.b h.two.2.2) (h.rm (by omega)) (h.rn (by omega)) (by omega)).mono fun _ _ h' => by rw [hs] at h'; exact h'
theorem OrdU.refc (h : OrdU w X Y a b p q x y W) (ha : VRd w a X) (hb : VRd w b Y) (oa : okV a = true) (ob : okV b = true) : Calls Tryz.prog 19 #[.agg X, .agg Y] W fun e w' => e = .returned (.int .i64 (cmpV a b)) ∧ OrdU w X Y a b p q x y w' :=
  (compareR_any a (okV_may oa) b (okV_may ob) W X Y (ha.below h.two.2.2) (hb.below h.two.2.2)).mono fun _ _ h' => ⟨h'.1, h.keep h'.2⟩
end
set_option maxRecDepth 100000 in
set_option maxHeartbeats 8000000 in
theorem orders_law {w : World} {a b : V} {x y : Array Value} (hE : Env w) (ha : VRd w a x) (hb : VRd w b y) :
    Calls Tryz.prog 3 #[.agg x, .agg y] w fun e w' => e = .returned (.bool true) ∧ Below w.heap.size w w' := by
  have hT := TwoV.start w x y
  obtain ⟨pk, ck, pl, cl, rfl, _⟩ := ha.open
  obtain ⟨pk', ck', pl', cl', rfl, _⟩ := hb.open
  have hb1 := below_new (w := (w.alloc (.cells #[.int .i64 a.kind, .bool a.b, .int .i64 a.n, .string (strB a.text), .slice pk a.keys.length ck, .slice pl a.list.length cl] 26)).alloc (.cells #[.int .i64 b.kind, .bool b.b, .int .i64 b.n, .string (strB b.text), .slice pk' b.keys.length ck', .slice pl' b.list.length cl'] 26)) (.cells #[.int .i64 a.kind, .bool a.b, .int .i64 a.n, .string (strB a.text), .slice pk a.keys.length ck, .slice pl a.list.length cl, .int .i64 b.kind, .bool b.b, .int .i64 b.n, .string (strB b.text), .slice pk' b.keys.length ck', .slice pl' b.list.length cl'] 26)
  have hbb := below_trans hT.2.2 hb1
  have hh := heap_alloc_new ((w.alloc (.cells #[.int .i64 a.kind, .bool a.b, .int .i64 a.n, .string (strB a.text), .slice pk a.keys.length ck, .slice pl a.list.length cl] 26)).alloc (.cells #[.int .i64 b.kind, .bool b.b, .int .i64 b.n, .string (strB b.text), .slice pk' b.keys.length ck', .slice pl' b.list.length cl'] 26)) (.cells #[.int .i64 a.kind, .bool a.b, .int .i64 a.n, .string (strB a.text), .slice pk a.keys.length ck, .slice pl a.list.length cl, .int .i64 b.kind, .bool b.b, .int .i64 b.n, .string (strB b.text), .slice pk' b.keys.length ck', .slice pl' b.list.length cl'] 26)
  simp only [World.size_alloc] at hh
  have HSM := Lib.hid ((small_any (LRd.two hh (ha.below hbb) (hb.below hbb))).mono (R' := fun e w' => e = .returned (.bool (decide (totVs [a, b] ≤ 2000))) ∧ TwoV w w' #[.int .i64 a.kind, .bool a.b, .int .i64 a.n, .string (strB a.text), .slice pk a.keys.length ck, .slice pl a.list.length cl] #[.int .i64 b.kind, .bool b.b, .int .i64 b.n, .string (strB b.text), .slice pk' b.keys.length ck', .slice pl' b.list.length cl']) fun _ _ h' => ⟨h'.1, (hT.below hb1).below h'.2⟩)
  have hts : totVs [a, b] = totV a + totV b := by simp [totVs]
  clear hh hbb hb1
  by_cases hs : totVs [a, b] ≤ 2000
  · rw [decide_eq_true hs] at HSM
    have ht : totV a + totV b ≤ 1000000 := by omega
    have HTT := Lib.hid (And.intro (show totV a ≤ 1000000 by omega) (show totV b ≤ 1000000 by omega))
    have HCP := Lib.hid (And.intro (fun (W : World) (h : TwoV w W #[.int .i64 a.kind, .bool a.b, .int .i64 a.n, .string (strB a.text), .slice pk a.keys.length ck, .slice pl a.list.length cl] #[.int .i64 b.kind, .bool b.b, .int .i64 b.n, .string (strB b.text), .slice pk' b.keys.length ck', .slice pl' b.list.length cl']) => copied_in (v := a) (by omega) (ha.below h.2.2)) (fun (W : World) (h : TwoV w W #[.int .i64 a.kind, .bool a.b, .int .i64 a.n, .string (strB a.text), .slice pk a.keys.length ck, .slice pl a.list.length cl] #[.int .i64 b.kind, .bool b.b, .int .i64 b.n, .string (strB b.text), .slice pk' b.keys.length ck', .slice pl' b.list.length cl']) => copied_in (v := b) (by omega) (hb.below h.2.2)))
    have HFI := Lib.hid (fun (W : World) (g : Nat) (h : Below w.heap.size w W) (hg : W.heap[g]? = some (.cells #[.int .i64 a.kind, .bool a.b, .int .i64 a.n, .string (strB a.text), .slice pk a.keys.length ck, .slice pl a.list.length cl, .int .i64 b.kind, .bool b.b, .int .i64 b.n, .string (strB b.text), .slice pk' b.keys.length ck', .slice pl' b.list.length cl'] 26 (0, 0))) => fine2_in h hg ha hb ht)
    have HK1 := Lib.hid (fun (p q : Nat) (m n : Array Value) (W : World) (h : OrdU w #[.int .i64 a.kind, .bool a.b, .int .i64 a.n, .string (strB a.text), .slice pk a.keys.length ck, .slice pl a.list.length cl] #[.int .i64 b.kind, .bool b.b, .int .i64 b.n, .string (strB b.text), .slice pk' b.keys.length ck', .slice pl' b.list.length cl'] a b p q m n W) => h.keptm ha (by omega))
    have HK2 := Lib.hid (fun (p q : Nat) (m n : Array Value) (W : World) (h : OrdU w #[.int .i64 a.kind, .bool a.b, .int .i64 a.n, .string (strB a.text), .slice pk a.keys.length ck, .slice pl a.list.length cl] #[.int .i64 b.kind, .bool b.b, .int .i64 b.n, .string (strB b.text), .slice pk' b.keys.length ck', .slice pl' b.list.length cl'] a b p q m n W) => h.keptn hb (by omega))
    have HWK := Lib.hid (fun (p q : Nat) (m n : Array Value) (W : World) (h : OrdU w #[.int .i64 a.kind, .bool a.b, .int .i64 a.n, .string (strB a.text), .slice pk a.keys.length ck, .slice pl a.list.length cl] #[.int .i64 b.kind, .bool b.b, .int .i64 b.n, .string (strB b.text), .slice pk' b.keys.length ck', .slice pl' b.list.length cl'] a b p q m n W) => h.works hE)
    have eS : ∀ (s : Bool) (W : World), (binOp .eql 4 (.bool s) (.bool s)).run Tryz.prog W = .ok (.bool true) W := fun s W => by cases s <;> simp [go_sem]
    by_cases ok : (okV a && okV b) = true
    · have hca : (if okV a && okV b then cmpV a b else 0) = cmpV a b := by rw [ok]; rfl
      have hcb : (if okV b && okV a then cmpV b a else 0) = -(cmpV a b) := by rw [Bool.and_comm, ok]; exact (ord_cmpV a).anti b
      have hsa : (okV a && okV b && decide (cmpV a b = 0)) = decide (cmpV a b = 0) := by rw [ok]; rfl
      have HC1 := Lib.hid (fun (p q : Nat) (m n : Array Value) (W : World) (h : OrdU w #[.int .i64 a.kind, .bool a.b, .int .i64 a.n, .string (strB a.text), .slice pk a.keys.length ck, .slice pl a.list.length cl] #[.int .i64 b.kind, .bool b.b, .int .i64 b.n, .string (strB b.text), .slice pk' b.keys.length ck', .slice pl' b.list.length cl'] a b p q m n W) => h.cmp1 hE ht hca)
      have HC2 := Lib.hid (fun (p q : Nat) (m n : Array Value) (W : World) (h : OrdU w #[.int .i64 a.kind, .bool a.b, .int .i64 a.n, .string (strB a.text), .slice pk a.keys.length ck, .slice pl a.list.length cl] #[.int .i64 b.kind, .bool b.b, .int .i64 b.n, .string (strB b.text), .slice pk' b.keys.length ck', .slice pl' b.list.length cl'] a b p q m n W) => h.cmp2 hE ht hcb)
      have HSA := Lib.hid (fun (p q : Nat) (m n : Array Value) (W : World) (h : OrdU w #[.int .i64 a.kind, .bool a.b, .int .i64 a.n, .string (strB a.text), .slice pk a.keys.length ck, .slice pl a.list.length cl] #[.int .i64 b.kind, .bool b.b, .int .i64 b.n, .string (strB b.text), .slice pk' b.keys.length ck', .slice pl' b.list.length cl'] a b p q m n W) => h.same hE ht hsa)
      have HRC := Lib.hid (fun (p q : Nat) (m n : Array Value) (W : World) (h : OrdU w #[.int .i64 a.kind, .bool a.b, .int .i64 a.n, .string (strB a.text), .slice pk a.keys.length ck, .slice pl a.list.length cl] #[.int .i64 b.kind, .bool b.b, .int .i64 b.n, .string (strB b.text), .slice pk' b.keys.length ck', .slice pl' b.list.length cl'] a b p q m n W) => h.refc ha hb (Bool.and_eq_true_iff.1 ok).1 (Bool.and_eq_true_iff.1 ok).2)
      have hr := (ord_cmpV a).range b
      rw [ok] at HFI
      have eS : ∀ W : World, (binOp .eql 4 (.bool (decide (cmpV a b = 0))) (.bool (decide (cmpV a b = 0)))).run Tryz.prog W = .ok (.bool true) W := fun W => eS _ W
      have eC : ∀ W : World, (binOp .eql 3 (.int .i64 (cmpV a b)) (.int .i64 (cmpV a b))).run Tryz.prog W = .ok (.bool true) W := fun W => by simp [go_sem]
      have eCN : ∀ W : World, (binOp .eql 3 (.int .i64 (-(cmpV a b))) (.int .i64 (-(cmpV a b)))).run Tryz.prog W = .ok (.bool true) W := fun W => by simp [go_sem]
      have eN : ∀ W : World, IntKind.i64.wrap (-(cmpV a b)) = -(cmpV a b) := fun W => by rcases hr with e | e | e <;> rw [e] <;> decide
      have eC0 : ∀ W : World, (binOp .eql 3 (.int .i64 (cmpV a b)) (.int .i64 0)).run Tryz.prog W = .ok (.bool (decide (cmpV a b = 0))) W := fun W => by rcases hr with e | e | e <;> rw [e] <;> simp [go_sem]
      clear hE ha hb hT hts hs ht hca hcb hsa ok hr
      generalize decide (cmpV a b = 0) = s at *
      generalize cmpV a b = C at *
      go_enter Tryz.func3, Tryz.ntmps3
      go_wp2_with (first
        | (go_at_call 15
           (refine (HSM.out).mono ?_
            rintro e w1 ⟨rfl, hT1⟩
            have px0 := cellOf (o := 0) hT1.1 rfl; have px1 := cellOf (o := 1) hT1.1 rfl; have px2 := cellOf (o := 2) hT1.1 rfl; have px3 := cellOf (o := 3) hT1.1 rfl; have px4 := cellOf (o := 4) hT1.1 rfl; have px5 := cellOf (o := 5) hT1.1 rfl
            have py0 := cellOf (o := 0) hT1.2.1 rfl; have py1 := cellOf (o := 1) hT1.2.1 rfl; have py2 := cellOf (o := 2) hT1.2.1 rfl; have py3 := cellOf (o := 3) hT1.2.1 rfl; have py4 := cellOf (o := 4) hT1.2.1 rfl; have py5 := cellOf (o := 5) hT1.2.1 rfl
            have HT := Lib.hid hT1
            clear hT1 HSM)))
      have hT : TwoV w _ #[.int .i64 a.kind, .bool a.b, .int .i64 a.n, .string (strB a.text), .slice pk a.keys.length ck, .slice pl a.list.length cl] #[.int .i64 b.kind, .bool b.b, .int .i64 b.n, .string (strB b.text), .slice pk' b.keys.length ck', .slice pl' b.list.length cl'] := HT.out.below (Below.refl _ _).drew
      refine plain_region_draws (fun W => TwoV w W #[.int .i64 a.kind, .bool a.b, .int .i64 a.n, .string (strB a.text), .slice pk a.keys.length ck, .slice pl a.list.length cl] #[.int .i64 b.kind, .bool b.b, .int .i64 b.n, .string (strB b.text), .slice pk' b.keys.length ck', .slice pl' b.list.length cl']) (by kernel_rfl) hT (fun hT => ?_)
      clear HT
      generalize World.drew _ = W0 at *
      have n0 : w.heap.size + 2 ≤ W0.heap.size := (Array.getElem?_eq_some_iff.1 hT.2.1).1
      refine take 0 14 (v := .agg #[.int .i64 a.kind, .bool a.b, .int .i64 a.n, .string (strB a.text), .slice pk a.keys.length ck, .slice pl a.list.length cl]) rfl rfl (by kernel_rfl) (by kernel_rfl) (by kernel_rfl) rfl (fun W hW => exec_load rfl rfl (get_val hW.1)) (by assumption) ?_
      simp only [Act.put, List.setIfInBounds_toArray, List.set_cons_zero, List.set_cons_succ]
      refine take 2 16 (v := .agg #[.int .i64 b.kind, .bool b.b, .int .i64 b.n, .string (strB b.text), .slice pk' b.keys.length ck', .slice pl' b.list.length cl']) rfl rfl (by kernel_rfl) (by kernel_rfl) (by kernel_rfl) rfl (fun W hW => exec_load rfl rfl (get_val hW.2.1)) (by assumption) ?_
      simp only [Act.put, List.setIfInBounds_toArray, List.set_cons_zero, List.set_cons_succ]
      refine any_order [1, 3, 4, 5] (CopF a b) 2 (by kernel_rfl) (by kernel_rfl) rfl (by kernel_rfl) (by kernel_rfl) (Nat.le_of_ble_eq_true (by kernel_rfl)) (fun _ hb => hT.below hb) (fun i _ => copF_keep i) ?_ [15, 17, 5, 6] (by kernel_rfl) ?_
      · intro i hi a1 w1 v lo hi1 hs
        have hT1 := hT.below hs.below
        simp only [List.mem_cons, List.not_mem_nil, or_false] at hi
        rcases hi with rfl | rfl | rfl | rfl
        · refine opCall 1 15 rfl rfl rfl (exec_call [.agg #[.int .i64 a.kind, .bool a.b, .int .i64 a.n, .string (strB a.text), .slice pk a.keys.length ck, .slice pl a.list.length cl]] rfl (congrArg (fun z => [z]) (hs.old 14 (.agg #[.int .i64 a.kind, .bool a.b, .int .i64 a.n, .string (strB a.text), .slice pk a.keys.length ck, .slice pl a.list.length cl]) (by kernel_rfl) rfl)) Tryz.func17 (by kernel_rfl) (by kernel_rfl)) ?_
          exact (HCP.out.1 _ hT1).mono fun e w' ⟨u, h1, h2, y, h3, h4⟩ => ⟨u, h1, u, rfl, h2, y, h3, h4⟩
        · refine opCall 3 17 rfl rfl rfl (exec_call [.agg #[.int .i64 b.kind, .bool b.b, .int .i64 b.n, .string (strB b.text), .slice pk' b.keys.length ck', .slice pl' b.list.length cl']] rfl (congrArg (fun z => [z]) (hs.old 16 (.agg #[.int .i64 b.kind, .bool b.b, .int .i64 b.n, .string (strB b.text), .slice pk' b.keys.length ck', .slice pl' b.list.length cl']) (by kernel_rfl) rfl)) Tryz.func17 (by kernel_rfl) (by kernel_rfl)) ?_
          exact (HCP.out.2 _ hT1).mono fun e w' ⟨u, h1, h2, y, h3, h4⟩ => ⟨u, h1, u, rfl, h2, y, h3, h4⟩
        · exact opRun 4 5 rfl rfl rfl (exec_allocV rfl) ⟨_, rfl, below_new _, rfl, by simp, heap_alloc_new _ _⟩
        · exact opRun 5 6 rfl rfl rfl (exec_allocV rfl) ⟨_, rfl, below_new _, rfl, by simp, heap_alloc_new _ _⟩
      intro v lo hi1 W1 hb hf hd
      obtain ⟨⟨x3, e1, s1⟩, r1⟩ := hf 1 (by simp)
      obtain ⟨⟨y3, e3, s3⟩, r3⟩ := hf 3 (by simp)
      obtain ⟨⟨e4, l4, h4⟩, r4⟩ := hf 4 (by simp)
      obtain ⟨⟨e5, l5, h5⟩, r5⟩ := hf 5 (by simp)
      have d14 := hd 1 (by simp) 4 (by simp) (by omega)
      have d15 := hd 1 (by simp) 5 (by simp) (by omega)
      have d34 := hd 3 (by simp) 4 (by simp) (by omega)
      have d35 := hd 3 (by simp) 5 (by simp) (by omega)
      have d45 := hd 4 (by simp) 5 (by simp) (by omega)
      clear hf hd
      simp only [List.zip_cons_cons, List.zip_nil_right, List.zip_nil_left, List.foldl_cons, List.foldl_nil, e1, e3, e4, e5, Act.put, List.setIfInBounds_toArray, List.set_cons_zero, List.set_cons_succ]
      clear e1 e3 e4 e5
      generalize lo 4 = p at *
      generalize lo 5 = q at *
      obtain ⟨pk3, ck3, pl3, cl3, rfl, _⟩ := (s1.open HTT.out.1).open
      obtain ⟨pk4, ck4, pl4, cl4, rfl, _⟩ := (s3.open HTT.out.2).open
      obtain ⟨W2, st1, hT2, W3, st2, hU⟩ := OrdU.made (hT.below hb) s1 s3 h4 h5 (by omega) (by omega) (by omega) (by omega) (by omega) (by omega) (by omega)
      refine onlySkip 6 rfl rfl (by kernel_rfl) rfl (exec_store rfl rfl rfl st1) (.inr hT2) ?_
      refine onlySkip 7 rfl rfl (by kernel_rfl) rfl (exec_store rfl rfl rfl st2) (.inl (by kernel_rfl)) ?_
      refine done (by kernel_rfl) ?_ _
      have HU := Lib.hid hU
      clear hU hT hT2 s1 s3 h4 h5 r1 r3 r4 r5 d14 d15 d34 d35 d45 l4 l5 st1 st2 hb n0
      have px0 := cellOf (o := 0) HU.out.two.1 rfl; have px1 := cellOf (o := 1) HU.out.two.1 rfl; have px2 := cellOf (o := 2) HU.out.two.1 rfl; have px3 := cellOf (o := 3) HU.out.two.1 rfl; have px4 := cellOf (o := 4) HU.out.two.1 rfl; have px5 := cellOf (o := 5) HU.out.two.1 rfl
      have py0 := cellOf (o := 0) HU.out.two.2.1 rfl; have py1 := cellOf (o := 1) HU.out.two.2.1 rfl; have py2 := cellOf (o := 2) HU.out.two.2.1 rfl; have py3 := cellOf (o := 3) HU.out.two.2.1 rfl; have py4 := cellOf (o := 4) HU.out.two.2.1 rfl; have py5 := cellOf (o := 5) HU.out.two.2.1 rfl
      go_wp2_with (first
        | (go_at_call 18
           (
            refine (HFI.out _ _ (below_trans HU.out.two.2.2 (below_new _)) (heap_alloc_new _ _)).mono ?_
            rintro e w2 ⟨rfl, hb⟩
            have hU := (HU.out.keep (below_new _)).keep hb
            have HU := Lib.hid hU
            have px0 := cellOf (o := 0) HU.out.two.1 rfl; have px1 := cellOf (o := 1) HU.out.two.1 rfl; have px2 := cellOf (o := 2) HU.out.two.1 rfl; have px3 := cellOf (o := 3) HU.out.two.1 rfl; have px4 := cellOf (o := 4) HU.out.two.1 rfl; have px5 := cellOf (o := 5) HU.out.two.1 rfl
            have py0 := cellOf (o := 0) HU.out.two.2.1 rfl; have py1 := cellOf (o := 1) HU.out.two.2.1 rfl; have py2 := cellOf (o := 2) HU.out.two.2.1 rfl; have py3 := cellOf (o := 3) HU.out.two.2.1 rfl; have py4 := cellOf (o := 4) HU.out.two.2.1 rfl; have py5 := cellOf (o := 5) HU.out.two.2.1 rfl
            clear hU hb))
        | (go_at_call 19
           (
            refine (HRC.out _ _ _ _ _ HU.out).mono ?_
            rintro e w3 ⟨rfl, hU⟩
            have HU := Lib.hid hU
            have px0 := cellOf (o := 0) HU.out.two.1 rfl; have px1 := cellOf (o := 1) HU.out.two.1 rfl; have px2 := cellOf (o := 2) HU.out.two.1 rfl; have px3 := cellOf (o := 3) HU.out.two.1 rfl; have px4 := cellOf (o := 4) HU.out.two.1 rfl; have px5 := cellOf (o := 5) HU.out.two.1 rfl
            have py0 := cellOf (o := 0) HU.out.two.2.1 rfl; have py1 := cellOf (o := 1) HU.out.two.2.1 rfl; have py2 := cellOf (o := 2) HU.out.two.2.1 rfl; have py3 := cellOf (o := 3) HU.out.two.2.1 rfl; have py4 := cellOf (o := 4) HU.out.two.2.1 rfl; have py5 := cellOf (o := 5) HU.out.two.2.1 rfl
            clear hU)))
      have hU : OrdU w #[.int .i64 a.kind, .bool a.b, .int .i64 a.n, .string (strB a.text), .slice pk a.keys.length ck, .slice pl a.list.length cl] #[.int .i64 b.kind, .bool b.b, .int .i64 b.n, .string (strB b.text), .slice pk' b.keys.length ck', .slice pl' b.list.length cl'] a b p q #[.int .i64 a.kind, .bool a.b, .int .i64 a.n, .string (strB a.text), .slice pk3 a.keys.length ck3, .slice pl3 a.list.length cl3] #[.int .i64 b.kind, .bool b.b, .int .i64 b.n, .string (strB b.text), .slice pk4 b.keys.length ck4, .slice pl4 b.list.length cl4] _ := HU.out.keep (Below.refl _ _).drew
      refine plain_region_draws (fun W => OrdU w #[.int .i64 a.kind, .bool a.b, .int .i64 a.n, .string (strB a.text), .slice pk a.keys.length ck, .slice pl a.list.length cl] #[.int .i64 b.kind, .bool b.b, .int .i64 b.n, .string (strB b.text), .slice pk' b.keys.length ck', .slice pl' b.list.length cl'] a b p q #[.int .i64 a.kind, .bool a.b, .int .i64 a.n, .string (strB a.text), .slice pk3 a.keys.length ck3, .slice pl3 a.list.length cl3] #[.int .i64 b.kind, .bool b.b, .int .i64 b.n, .string (strB b.text), .slice pk4 b.keys.length ck4, .slice pl4 b.list.length cl4] W) (by kernel_rfl) hU (fun hU => ?_)
      clear HU
      generalize World.drew _ = W5 at *
      (try clear px0 px1 px2 px3 px4 px5 py0 py1 py2 py3 py4 py5)
      refine take 0 25 (v := .agg #[.int .i64 a.kind, .bool a.b, .int .i64 a.n, .string (strB a.text), .slice pk3 a.keys.length ck3, .slice pl3 a.list.length cl3]) rfl rfl (by kernel_rfl) (by kernel_rfl) (by kernel_rfl) rfl (fun W hW => exec_load rfl rfl (get_val hW.hm)) (by assumption) ?_
      simp only [Act.put, List.setIfInBounds_toArray, List.set_cons_zero, List.set_cons_succ]
      refine take 1 26 (v := .agg #[.int .i64 b.kind, .bool b.b, .int .i64 b.n, .string (strB b.text), .slice pk4 b.keys.length ck4, .slice pl4 b.list.length cl4]) rfl rfl (by kernel_rfl) (by kernel_rfl) (by kernel_rfl) rfl (fun W hW => exec_load rfl rfl (get_val hW.hn)) (by assumption) ?_
      simp only [Act.put, List.setIfInBounds_toArray, List.set_cons_zero, List.set_cons_succ]
      refine take 3 28 (v := .int .i64 C) rfl rfl (by kernel_rfl) (by kernel_rfl) (by kernel_rfl) rfl (fun W hW => exec_move rfl rfl) (by assumption) ?_
      simp only [Act.put, List.setIfInBounds_toArray, List.set_cons_zero, List.set_cons_succ]
      refine onlyCall 2 27 rfl rfl (by kernel_rfl) rfl (exec_call [.agg #[.int .i64 a.kind, .bool a.b, .int .i64 a.n, .string (strB a.text), .slice pk3 a.keys.length ck3, .slice pl3 a.list.length cl3], .agg #[.int .i64 b.kind, .bool b.b, .int .i64 b.n, .string (strB b.text), .slice pk4 b.keys.length ck4, .slice pl4 b.list.length cl4]] rfl rfl Tryz.func20 (by kernel_rfl) (by kernel_rfl)) ?_
      refine (HC1.out _ _ _ _ _ hU).mono ?_
      rintro e w5 ⟨rfl, hU⟩
      refine ⟨_, rfl, .inr (by assumption), ?_⟩
      simp only [Act.put, List.setIfInBounds_toArray, List.set_cons_zero, List.set_cons_succ]
      refine take 4 29 (v := .bool true) rfl rfl (by kernel_rfl) (by kernel_rfl) (by kernel_rfl) rfl (fun W hW => exec_bini rfl rfl rfl (eC W)) (by assumption) ?_
      simp only [Act.put, List.setIfInBounds_toArray, List.set_cons_zero, List.set_cons_succ]
      refine take 5 30 (v := .bool true) rfl rfl (by kernel_rfl) (by kernel_rfl) (by kernel_rfl) rfl (fun W hW => exec_move rfl rfl) (by assumption) ?_
      simp only [Act.put, List.setIfInBounds_toArray, List.set_cons_zero, List.set_cons_succ]
      refine take 6 31 (v := .agg #[.int .i64 b.kind, .bool b.b, .int .i64 b.n, .string (strB b.text), .slice pk4 b.keys.length ck4, .slice pl4 b.list.length cl4]) rfl rfl (by kernel_rfl) (by kernel_rfl) (by kernel_rfl) rfl (fun W hW => exec_load rfl rfl (get_val hW.hn)) (by assumption) ?_
      simp only [Act.put, List.setIfInBounds_toArray, List.set_cons_zero, List.set_cons_succ]
      refine take 7 32 (v := .agg #[.int .i64 a.kind, .bool a.b, .int .i64 a.n, .string (strB a.text), .slice pk3 a.keys.length ck3, .slice pl3 a.list.length cl3]) rfl rfl (by kernel_rfl) (by kernel_rfl) (by kernel_rfl) rfl (fun W hW => exec_load rfl rfl (get_val hW.hm)) (by assumption) ?_
      simp only [Act.put, List.setIfInBounds_toArray, List.set_cons_zero, List.set_cons_succ]
      refine take 9 34 (v := .int .i64 C) rfl rfl (by kernel_rfl) (by kernel_rfl) (by kernel_rfl) rfl (fun W hW => exec_move rfl rfl) (by assumption) ?_
      simp only [Act.put, List.setIfInBounds_toArray, List.set_cons_zero, List.set_cons_succ]
      refine take 10 35 (v := .int .i64 (-C)) rfl rfl (by kernel_rfl) (by kernel_rfl) (by kernel_rfl) rfl (fun W hW => exec_neg rfl rfl (eN W)) (by assumption) ?_
      simp only [Act.put, List.setIfInBounds_toArray, List.set_cons_zero, List.set_cons_succ]
      refine onlyCall 8 33 rfl rfl (by kernel_rfl) rfl (exec_call [.agg #[.int .i64 b.kind, .bool b.b, .int .i64 b.n, .string (strB b.text), .slice pk4 b.keys.length ck4, .slice pl4 b.list.length cl4], .agg #[.int .i64 a.kind, .bool a.b, .int .i64 a.n, .string (strB a.text), .slice pk3 a.keys.length ck3, .slice pl3 a.list.length cl3]] rfl rfl Tryz.func20 (by kernel_rfl) (by kernel_rfl)) ?_
      refine (HC2.out _ _ _ _ _ hU).mono ?_
      rintro e w5 ⟨rfl, hU⟩
      refine ⟨_, rfl, .inr (by assumption), ?_⟩
      simp only [Act.put, List.setIfInBounds_toArray, List.set_cons_zero, List.set_cons_succ]
      refine take 11 36 (v := .bool true) rfl rfl (by kernel_rfl) (by kernel_rfl) (by kernel_rfl) rfl (fun W hW => exec_bini rfl rfl rfl (eCN W)) (by assumption) ?_
      simp only [Act.put, List.setIfInBounds_toArray, List.set_cons_zero, List.set_cons_succ]
      refine take 12 37 (v := .bool true) rfl rfl (by kernel_rfl) (by kernel_rfl) (by kernel_rfl) rfl (fun W hW => rfl) (by assumption) ?_
      simp only [Act.put, List.setIfInBounds_toArray, List.set_cons_zero, List.set_cons_succ]
      refine take 13 38 (v := .bool true) rfl rfl (by kernel_rfl) (by kernel_rfl) (by kernel_rfl) rfl (fun W hW => exec_move rfl rfl) (by assumption) ?_
      simp only [Act.put, List.setIfInBounds_toArray, List.set_cons_zero, List.set_cons_succ]
      refine take 14 39 (v := .agg #[.int .i64 a.kind, .bool a.b, .int .i64 a.n, .string (strB a.text), .slice pk3 a.keys.length ck3, .slice pl3 a.list.length cl3]) rfl rfl (by kernel_rfl) (by kernel_rfl) (by kernel_rfl) rfl (fun W hW => exec_load rfl rfl (get_val hW.hm)) (by assumption) ?_
      simp only [Act.put, List.setIfInBounds_toArray, List.set_cons_zero, List.set_cons_succ]
      refine take 15 40 (v := .agg #[.int .i64 b.kind, .bool b.b, .int .i64 b.n, .string (strB b.text), .slice pk4 b.keys.length ck4, .slice pl4 b.list.length cl4]) rfl rfl (by kernel_rfl) (by kernel_rfl) (by kernel_rfl) rfl (fun W hW => exec_load rfl rfl (get_val hW.hn)) (by assumption) ?_
      simp only [Act.put, List.setIfInBounds_toArray, List.set_cons_zero, List.set_cons_succ]
      refine take 17 42 (v := .agg #[.int .i64 a.kind, .bool a.b, .int .i64 a.n, .string (strB a.text), .slice pk a.keys.length ck, .slice pl a.list.length cl]) rfl rfl (by kernel_rfl) (by kernel_rfl) (by kernel_rfl) rfl (fun W hW => exec_load rfl rfl (get_val hW.two.1)) (by assumption) ?_
      simp only [Act.put, List.setIfInBounds_toArray, List.set_cons_zero, List.set_cons_succ]
      refine take 18 43 (v := .agg #[.int .i64 b.kind, .bool b.b, .int .i64 b.n, .string (strB b.text), .slice pk' b.keys.length ck', .slice pl' b.list.length cl']) rfl rfl (by kernel_rfl) (by kernel_rfl) (by kernel_rfl) rfl (fun W hW => exec_load rfl rfl (get_val hW.two.2.1)) (by assumption) ?_
      simp only [Act.put, List.setIfInBounds_toArray, List.set_cons_zero, List.set_cons_succ]
      refine any_order [16, 19] (fun i W v lo hi => match i with | 16 => v = .bool s | _ => v = .slice (some ⟨lo, 0, none⟩) 2 2 ∧ lo < hi ∧ W.heap[lo]? = some (.cells #[.int .i64 a.kind, .bool a.b, .int .i64 a.n, .string (strB a.text), .slice pk a.keys.length ck, .slice pl a.list.length cl, .int .i64 b.kind, .bool b.b, .int .i64 b.n, .string (strB b.text), .slice pk' b.keys.length ck', .slice pl' b.list.length cl'] 26 (0, 0))) 21 (by kernel_rfl) (by kernel_rfl) rfl (by kernel_rfl) (by kernel_rfl) (Nat.le_of_ble_eq_true (by kernel_rfl)) (fun _ hb => hU.keep hb) ?_ ?_ [41, 44] (by kernel_rfl) ?_
      · intro i hi w w' v lo hi1 hh hb h
        simp only [List.mem_cons, List.not_mem_nil, or_false] at hi
        rcases hi with rfl | rfl
        · exact h
        · obtain ⟨h1, h2, h3⟩ := h
          exact ⟨h1, h2, (hb.block _ (by omega)).trans h3⟩
      · intro i hi a1 w1 v lo hi1 hs
        have hU1 := hU.keep hs.below
        simp only [List.mem_cons, List.not_mem_nil, or_false] at hi
        rcases hi with rfl | rfl
        · refine opCall 16 41 rfl rfl (wanted_slot rfl rfl (hs.cell 38 (.bool true) (by kernel_rfl) rfl)) (exec_call [.agg #[.int .i64 a.kind, .bool a.b, .int .i64 a.n, .string (strB a.text), .slice pk3 a.keys.length ck3, .slice pl3 a.list.length cl3], .agg #[.int .i64 b.kind, .bool b.b, .int .i64 b.n, .string (strB b.text), .slice pk4 b.keys.length ck4, .slice pl4 b.list.length cl4]] rfl (two_evals (hs.old 39 (.agg #[.int .i64 a.kind, .bool a.b, .int .i64 a.n, .string (strB a.text), .slice pk3 a.keys.length ck3, .slice pl3 a.list.length cl3]) (by kernel_rfl) rfl) (hs.old 40 (.agg #[.int .i64 b.kind, .bool b.b, .int .i64 b.n, .string (strB b.text), .slice pk4 b.keys.length ck4, .slice pl4 b.list.length cl4]) (by kernel_rfl) rfl)) Tryz.func21 (by kernel_rfl) (by kernel_rfl)) ?_
          exact (HSA.out _ _ _ _ _ hU1).mono fun e w' ⟨h1, h2⟩ => ⟨_, h1, _, rfl, h2, rfl⟩
        · exact opRun 19 44 rfl rfl (wanted_slot rfl rfl (hs.cell 38 (.bool true) (by kernel_rfl) rfl)) (exec_buildSlice2 rfl (hs.old 42 (.agg #[.int .i64 a.kind, .bool a.b, .int .i64 a.n, .string (strB a.text), .slice pk a.keys.length ck, .slice pl a.list.length cl]) (by kernel_rfl) rfl) (hs.old 43 (.agg #[.int .i64 b.kind, .bool b.b, .int .i64 b.n, .string (strB b.text), .slice pk' b.keys.length ck', .slice pl' b.list.length cl']) (by kernel_rfl) rfl) (run_two _ _ _ _ _ _ _ _ _ _ _ _ _)) ⟨_, rfl, below_new _, rfl, by simp, heap_alloc_new _ _⟩
      intro v lo hi1 W4 hb hf _
      have e16 : v 16 = .bool s := (hf 16 (by simp)).1
      obtain ⟨⟨e19, l19, h19⟩, r19⟩ := hf 19 (by simp)
      have hU0 := hU
      have hU := hU.keep hb
      clear hf
      simp only [List.zip_cons_cons, List.zip_nil_right, List.zip_nil_left, List.foldl_cons, List.foldl_nil, e16, e19, Act.put, List.setIfInBounds_toArray, List.set_cons_zero, List.set_cons_succ]
      clear e16 e19 hU0 hb
      generalize lo 19 = g at *
      refine onlyCall 20 45 rfl rfl (by kernel_rfl) rfl (exec_call [.slice (some ⟨g, 0, none⟩) 2 2] rfl rfl Tryz.func18 (by kernel_rfl) (by kernel_rfl)) ?_
      refine (HFI.out _ _ hU.two.2.2 h19).mono ?_
      rintro e w5 ⟨rfl, hb⟩
      have hU := hU.keep hb
      clear hb
      refine ⟨_, rfl, .inr (by assumption), ?_⟩
      simp only [Act.put, List.setIfInBounds_toArray, List.set_cons_zero, List.set_cons_succ]
      refine take 21 46 (v := .bool true) rfl rfl (by kernel_rfl) (by kernel_rfl) (by kernel_rfl) rfl (fun W hW => exec_move rfl rfl) (by assumption) ?_
      simp only [Act.put, List.setIfInBounds_toArray, List.set_cons_zero, List.set_cons_succ]
      refine take 22 47 (v := .int .i64 C) rfl rfl (by kernel_rfl) (by kernel_rfl) (by kernel_rfl) rfl (fun W hW => exec_move rfl rfl) (by assumption) ?_
      simp only [Act.put, List.setIfInBounds_toArray, List.set_cons_zero, List.set_cons_succ]
      refine take 23 48 (v := .bool s) rfl rfl (by kernel_rfl) (by kernel_rfl) (by kernel_rfl) rfl (fun W hW => exec_bini rfl rfl rfl (eC0 W)) (by assumption) ?_
      simp only [Act.put, List.setIfInBounds_toArray, List.set_cons_zero, List.set_cons_succ]
      refine take 24 49 (v := .bool s) rfl rfl (by kernel_rfl) (by kernel_rfl) (by kernel_rfl) rfl (fun W hW => rfl) (by assumption) ?_
      simp only [Act.put, List.setIfInBounds_toArray, List.set_cons_zero, List.set_cons_succ]
      refine take 25 50 (v := .bool true) rfl rfl (by kernel_rfl) (by kernel_rfl) (by kernel_rfl) rfl (fun W hW => exec_binbb rfl rfl rfl (eS W)) (by assumption) ?_
      simp only [Act.put, List.setIfInBounds_toArray, List.set_cons_zero, List.set_cons_succ]
      refine take 26 51 (v := .bool true) rfl rfl (by kernel_rfl) (by kernel_rfl) (by kernel_rfl) rfl (fun W hW => rfl) (by assumption) ?_
      simp only [Act.put, List.setIfInBounds_toArray, List.set_cons_zero, List.set_cons_succ]
      refine take 27 52 (v := .bool true) rfl rfl (by kernel_rfl) (by kernel_rfl) (by kernel_rfl) rfl (fun W hW => exec_move rfl rfl) (by assumption) ?_
      simp only [Act.put, List.setIfInBounds_toArray, List.set_cons_zero, List.set_cons_succ]
      refine take 28 53 (v := .agg #[.int .i64 a.kind, .bool a.b, .int .i64 a.n, .string (strB a.text), .slice pk3 a.keys.length ck3, .slice pl3 a.list.length cl3]) rfl rfl (by kernel_rfl) (by kernel_rfl) (by kernel_rfl) rfl (fun W hW => exec_load rfl rfl (get_val hW.hm)) (by assumption) ?_
      simp only [Act.put, List.setIfInBounds_toArray, List.set_cons_zero, List.set_cons_succ]
      refine take 29 54 (v := .agg #[.int .i64 a.kind, .bool a.b, .int .i64 a.n, .string (strB a.text), .slice pk a.keys.length ck, .slice pl a.list.length cl]) rfl rfl (by kernel_rfl) (by kernel_rfl) (by kernel_rfl) rfl (fun W hW => exec_load rfl rfl (get_val hW.two.1)) (by assumption) ?_
      simp only [Act.put, List.setIfInBounds_toArray, List.set_cons_zero, List.set_cons_succ]
      refine onlyCall 30 55 rfl rfl (by kernel_rfl) rfl (exec_call [.agg #[.int .i64 a.kind, .bool a.b, .int .i64 a.n, .string (strB a.text), .slice pk3 a.keys.length ck3, .slice pl3 a.list.length cl3], .agg #[.int .i64 a.kind, .bool a.b, .int .i64 a.n, .string (strB a.text), .slice pk a.keys.length ck, .slice pl a.list.length cl]] rfl rfl Tryz.func22 (by kernel_rfl) (by kernel_rfl)) ?_
      refine (HK1.out _ _ _ _ _ hU).mono ?_
      rintro e w5 ⟨rfl, hU⟩
      refine ⟨_, rfl, .inr (by assumption), ?_⟩
      simp only [Act.put, List.setIfInBounds_toArray, List.set_cons_zero, List.set_cons_succ]
      refine take 31 56 (v := .bool true) rfl rfl (by kernel_rfl) (by kernel_rfl) (by kernel_rfl) rfl (fun W hW => rfl) (by assumption) ?_
      simp only [Act.put, List.setIfInBounds_toArray, List.set_cons_zero, List.set_cons_succ]
      refine take 32 57 (v := .bool true) rfl rfl (by kernel_rfl) (by kernel_rfl) (by kernel_rfl) rfl (fun W hW => exec_move rfl rfl) (by assumption) ?_
      simp only [Act.put, List.setIfInBounds_toArray, List.set_cons_zero, List.set_cons_succ]
      refine take 33 58 (v := .agg #[.int .i64 b.kind, .bool b.b, .int .i64 b.n, .string (strB b.text), .slice pk4 b.keys.length ck4, .slice pl4 b.list.length cl4]) rfl rfl (by kernel_rfl) (by kernel_rfl) (by kernel_rfl) rfl (fun W hW => exec_load rfl rfl (get_val hW.hn)) (by assumption) ?_
      simp only [Act.put, List.setIfInBounds_toArray, List.set_cons_zero, List.set_cons_succ]
      refine take 34 59 (v := .agg #[.int .i64 b.kind, .bool b.b, .int .i64 b.n, .string (strB b.text), .slice pk' b.keys.length ck', .slice pl' b.list.length cl']) rfl rfl (by kernel_rfl) (by kernel_rfl) (by kernel_rfl) rfl (fun W hW => exec_load rfl rfl (get_val hW.two.2.1)) (by assumption) ?_
      simp only [Act.put, List.setIfInBounds_toArray, List.set_cons_zero, List.set_cons_succ]
      refine onlyCall 35 60 rfl rfl (by kernel_rfl) rfl (exec_call [.agg #[.int .i64 b.kind, .bool b.b, .int .i64 b.n, .string (strB b.text), .slice pk4 b.keys.length ck4, .slice pl4 b.list.length cl4], .agg #[.int .i64 b.kind, .bool b.b, .int .i64 b.n, .string (strB b.text), .slice pk' b.keys.length ck', .slice pl' b.list.length cl']] rfl rfl Tryz.func22 (by kernel_rfl) (by kernel_rfl)) ?_
      refine (HK2.out _ _ _ _ _ hU).mono ?_
      rintro e w5 ⟨rfl, hU⟩
      refine ⟨_, rfl, .inr (by assumption), ?_⟩
      simp only [Act.put, List.setIfInBounds_toArray, List.set_cons_zero, List.set_cons_succ]
      refine take 36 61 (v := .bool true) rfl rfl (by kernel_rfl) (by kernel_rfl) (by kernel_rfl) rfl (fun W hW => rfl) (by assumption) ?_
      simp only [Act.put, List.setIfInBounds_toArray, List.set_cons_zero, List.set_cons_succ]
      refine take 37 62 (v := .bool true) rfl rfl (by kernel_rfl) (by kernel_rfl) (by kernel_rfl) rfl (fun W hW => exec_move rfl rfl) (by assumption) ?_
      simp only [Act.put, List.setIfInBounds_toArray, List.set_cons_zero, List.set_cons_succ]
      refine onlyCall 38 63 rfl rfl (by kernel_rfl) rfl (exec_call [] rfl rfl Tryz.func16 (by kernel_rfl) (by kernel_rfl)) ?_
      refine (HWK.out _ _ _ _ _ hU).mono ?_
      rintro e w5 ⟨rfl, hU⟩
      refine ⟨_, rfl, .inr (by assumption), ?_⟩
      simp only [Act.put, List.setIfInBounds_toArray, List.set_cons_zero, List.set_cons_succ]
      refine take 39 64 (v := .bool true) rfl rfl (by kernel_rfl) (by kernel_rfl) (by kernel_rfl) rfl (fun W hW => rfl) (by assumption) ?_
      simp only [Act.put, List.setIfInBounds_toArray, List.set_cons_zero, List.set_cons_succ]
      refine take 40 4 (v := .bool true) rfl rfl (by kernel_rfl) (by kernel_rfl) (by kernel_rfl) rfl (fun W hW => exec_assign rfl rfl) (by assumption) ?_
      simp only [Act.put, List.setIfInBounds_toArray, List.set_cons_zero, List.set_cons_succ]
      refine done (by kernel_rfl) ?_ _
      go_wp2
      go_ret
      exact ⟨rfl, hU.two.2.2⟩
    · have hok : (okV a && okV b) = false := by simpa using ok
      have hca : (if okV a && okV b then cmpV a b else 0) = 0 := by rw [hok]; rfl
      have hcb : (if okV b && okV a then cmpV b a else 0) = 0 := by rw [Bool.and_comm, hok]; rfl
      have hsa : (okV a && okV b && decide (cmpV a b = 0)) = false := by rw [hok]; rfl
      have HC1 := Lib.hid (fun (p q : Nat) (m n : Array Value) (W : World) (h : OrdU w #[.int .i64 a.kind, .bool a.b, .int .i64 a.n, .string (strB a.text), .slice pk a.keys.length ck, .slice pl a.list.length cl] #[.int .i64 b.kind, .bool b.b, .int .i64 b.n, .string (strB b.text), .slice pk' b.keys.length ck', .slice pl' b.list.length cl'] a b p q m n W) => h.cmp1 hE ht hca)
      have HC2 := Lib.hid (fun (p q : Nat) (m n : Array Value) (W : World) (h : OrdU w #[.int .i64 a.kind, .bool a.b, .int .i64 a.n, .string (strB a.text), .slice pk a.keys.length ck, .slice pl a.list.length cl] #[.int .i64 b.kind, .bool b.b, .int .i64 b.n, .string (strB b.text), .slice pk' b.keys.length ck', .slice pl' b.list.length cl'] a b p q m n W) => h.cmp2 hE ht hcb)
      have HSA := Lib.hid (fun (p q : Nat) (m n : Array Value) (W : World) (h : OrdU w #[.int .i64 a.kind, .bool a.b, .int .i64 a.n, .string (strB a.text), .slice pk a.keys.length ck, .slice pl a.list.length cl] #[.int .i64 b.kind, .bool b.b, .int .i64 b.n, .string (strB b.text), .slice pk' b.keys.length ck', .slice pl' b.list.length cl'] a b p q m n W) => h.same hE ht hsa)
      rw [hok] at HFI
      have eS : ∀ W : World, (binOp .eql 4 (.bool false) (.bool false)).run Tryz.prog W = .ok (.bool true) W := fun W => eS _ W
      have eC : ∀ W : World, (binOp .eql 3 (.int .i64 0) (.int .i64 0)).run Tryz.prog W = .ok (.bool true) W := fun W => by simp [go_sem]
      have eCN := eC
      have eN : ∀ W : World, IntKind.i64.wrap (-(0 : Int)) = 0 := fun W => by decide
      clear hE ha hb hT hts hs ht hca hcb hsa ok hok
      go_enter Tryz.func3, Tryz.ntmps3
      go_wp2_with (first
        | (go_at_call 15
           (refine (HSM.out).mono ?_
            rintro e w1 ⟨rfl, hT1⟩
            have px0 := cellOf (o := 0) hT1.1 rfl; have px1 := cellOf (o := 1) hT1.1 rfl; have px2 := cellOf (o := 2) hT1.1 rfl; have px3 := cellOf (o := 3) hT1.1 rfl; have px4 := cellOf (o := 4) hT1.1 rfl; have px5 := cellOf (o := 5) hT1.1 rfl
            have py0 := cellOf (o := 0) hT1.2.1 rfl; have py1 := cellOf (o := 1) hT1.2.1 rfl; have py2 := cellOf (o := 2) hT1.2.1 rfl; have py3 := cellOf (o := 3) hT1.2.1 rfl; have py4 := cellOf (o := 4) hT1.2.1 rfl; have py5 := cellOf (o := 5) hT1.2.1 rfl
            have HT := Lib.hid hT1
            clear hT1 HSM)))
      have hT : TwoV w _ #[.int .i64 a.kind, .bool a.b, .int .i64 a.n, .string (strB a.text), .slice pk a.keys.length ck, .slice pl a.list.length cl] #[.int .i64 b.kind, .bool b.b, .int .i64 b.n, .string (strB b.text), .slice pk' b.keys.length ck', .slice pl' b.list.length cl'] := HT.out.below (Below.refl _ _).drew
      refine plain_region_draws (fun W => TwoV w W #[.int .i64 a.kind, .bool a.b, .int .i64 a.n, .string (strB a.text), .slice pk a.keys.length ck, .slice pl a.list.length cl] #[.int .i64 b.kind, .bool b.b, .int .i64 b.n, .string (strB b.text), .slice pk' b.keys.length ck', .slice pl' b.list.length cl']) (by kernel_rfl) hT (fun hT => ?_)
      clear HT
      generalize World.drew _ = W0 at *
      have n0 : w.heap.size + 2 ≤ W0.heap.size := (Array.getElem?_eq_some_iff.1 hT.2.1).1
      refine take 0 14 (v := .agg #[.int .i64 a.kind, .bool a.b, .int .i64 a.n, .string (strB a.text), .slice pk a.keys.length ck, .slice pl a.list.length cl]) rfl rfl (by kernel_rfl) (by kernel_rfl) (by kernel_rfl) rfl (fun W hW => exec_load rfl rfl (get_val hW.1)) (by assumption) ?_
      simp only [Act.put, List.setIfInBounds_toArray, List.set_cons_zero, List.set_cons_succ]
      refine take 2 16 (v := .agg #[.int .i64 b.kind, .bool b.b, .int .i64 b.n, .string (strB b.text), .slice pk' b.keys.length ck', .slice pl' b.list.length cl']) rfl rfl (by kernel_rfl) (by kernel_rfl) (by kernel_rfl) rfl (fun W hW => exec_load rfl rfl (get_val hW.2.1)) (by assumption) ?_
      simp only [Act.put, List.setIfInBounds_toArray, List.set_cons_zero, List.set_cons_succ]
      refine any_order [1, 3, 4, 5] (CopF a b) 2 (by kernel_rfl) (by kernel_rfl) rfl (by kernel_rfl) (by kernel_rfl) (Nat.le_of_ble_eq_true (by kernel_rfl)) (fun _ hb => hT.below hb) (fun i _ => copF_keep i) ?_ [15, 17, 5, 6] (by kernel_rfl) ?_
      · intro i hi a1 w1 v lo hi1 hs
        have hT1 := hT.below hs.below
        simp only [List.mem_cons, List.not_mem_nil, or_false] at hi
        rcases hi with rfl | rfl | rfl | rfl
        · refine opCall 1 15 rfl rfl rfl (exec_call [.agg #[.int .i64 a.kind, .bool a.b, .int .i64 a.n, .string (strB a.text), .slice pk a.keys.length ck, .slice pl a.list.length cl]] rfl (congrArg (fun z => [z]) (hs.old 14 (.agg #[.int .i64 a.kind, .bool a.b, .int .i64 a.n, .string (strB a.text), .slice pk a.keys.length ck, .slice pl a.list.length cl]) (by kernel_rfl) rfl)) Tryz.func17 (by kernel_rfl) (by kernel_rfl)) ?_
          exact (HCP.out.1 _ hT1).mono fun e w' ⟨u, h1, h2, y, h3, h4⟩ => ⟨u, h1, u, rfl, h2, y, h3, h4⟩
        · refine opCall 3 17 rfl rfl rfl (exec_call [.agg #[.int .i64 b.kind, .bool b.b, .int .i64 b.n, .string (strB b.text), .slice pk' b.keys.length ck', .slice pl' b.list.length cl']] rfl (congrArg (fun z => [z]) (hs.old 16 (.agg #[.int .i64 b.kind, .bool b.b, .int .i64 b.n, .string (strB b.text), .slice pk' b.keys.length ck', .slice pl' b.list.length cl']) (by kernel_rfl) rfl)) Tryz.func17 (by kernel_rfl) (by kernel_rfl)) ?_
          exact (HCP.out.2 _ hT1).mono fun e w' ⟨u, h1, h2, y, h3, h4⟩ => ⟨u, h1, u, rfl, h2, y, h3, h4⟩
        · exact opRun 4 5 rfl rfl rfl (exec_allocV rfl) ⟨_, rfl, below_new _, rfl, by simp, heap_alloc_new _ _⟩
        · exact opRun 5 6 rfl rfl rfl (exec_allocV rfl) ⟨_, rfl, below_new _, rfl, by simp, heap_alloc_new _ _⟩
      intro v lo hi1 W1 hb hf hd
      obtain ⟨⟨x3, e1, s1⟩, r1⟩ := hf 1 (by simp)
      obtain ⟨⟨y3, e3, s3⟩, r3⟩ := hf 3 (by simp)
      obtain ⟨⟨e4, l4, h4⟩, r4⟩ := hf 4 (by simp)
      obtain ⟨⟨e5, l5, h5⟩, r5⟩ := hf 5 (by simp)
      have d14 := hd 1 (by simp) 4 (by simp) (by omega)
      have d15 := hd 1 (by simp) 5 (by simp) (by omega)
      have d34 := hd 3 (by simp) 4 (by simp) (by omega)
      have d35 := hd 3 (by simp) 5 (by simp) (by omega)
      have d45 := hd 4 (by simp) 5 (by simp) (by omega)
      clear hf hd
      simp only [List.zip_cons_cons, List.zip_nil_right, List.zip_nil_left, List.foldl_cons, List.foldl_nil, e1, e3, e4, e5, Act.put, List.setIfInBounds_toArray, List.set_cons_zero, List.set_cons_succ]
      clear e1 e3 e4 e5
      generalize lo 4 = p at *
      generalize lo 5 = q at *
      obtain ⟨pk3, ck3, pl3, cl3, rfl, _⟩ := (s1.open HTT.out.1).open
      obtain ⟨pk4, ck4, pl4, cl4, rfl, _⟩ := (s3.open HTT.out.2).open
      obtain ⟨W2, st1, hT2, W3, st2, hU⟩ := OrdU.made (hT.below hb) s1 s3 h4 h5 (by omega) (by omega) (by omega) (by omega) (by omega) (by omega) (by omega)
      refine onlySkip 6 rfl rfl (by kernel_rfl) rfl (exec_store rfl rfl rfl st1) (.inr hT2) ?_
      refine onlySkip 7 rfl rfl (by kernel_rfl) rfl (exec_store rfl rfl rfl st2) (.inl (by kernel_rfl)) ?_
      refine done (by kernel_rfl) ?_ _
      have HU := Lib.hid hU
      clear hU hT hT2 s1 s3 h4 h5 r1 r3 r4 r5 d14 d15 d34 d35 d45 l4 l5 st1 st2 hb n0
      have px0 := cellOf (o := 0) HU.out.two.1 rfl; have px1 := cellOf (o := 1) HU.out.two.1 rfl; have px2 := cellOf (o := 2) HU.out.two.1 rfl; have px3 := cellOf (o := 3) HU.out.two.1 rfl; have px4 := cellOf (o := 4) HU.out.two.1 rfl; have px5 := cellOf (o := 5) HU.out.two.1 rfl
      have py0 := cellOf (o := 0) HU.out.two.2.1 rfl; have py1 := cellOf (o := 1) HU.out.two.2.1 rfl; have py2 := cellOf (o := 2) HU.out.two.2.1 rfl; have py3 := cellOf (o := 3) HU.out.two.2.1 rfl; have py4 := cellOf (o := 4) HU.out.two.2.1 rfl; have py5 := cellOf (o := 5) HU.out.two.2.1 rfl
      go_wp2_with (first
        | (go_at_call 18
           (
            refine (HFI.out _ _ (below_trans HU.out.two.2.2 (below_new _)) (heap_alloc_new _ _)).mono ?_
            rintro e w2 ⟨rfl, hb⟩
            have hU := (HU.out.keep (below_new _)).keep hb
            have HU := Lib.hid hU
            have px0 := cellOf (o := 0) HU.out.two.1 rfl; have px1 := cellOf (o := 1) HU.out.two.1 rfl; have px2 := cellOf (o := 2) HU.out.two.1 rfl; have px3 := cellOf (o := 3) HU.out.two.1 rfl; have px4 := cellOf (o := 4) HU.out.two.1 rfl; have px5 := cellOf (o := 5) HU.out.two.1 rfl
            have py0 := cellOf (o := 0) HU.out.two.2.1 rfl; have py1 := cellOf (o := 1) HU.out.two.2.1 rfl; have py2 := cellOf (o := 2) HU.out.two.2.1 rfl; have py3 := cellOf (o := 3) HU.out.two.2.1 rfl; have py4 := cellOf (o := 4) HU.out.two.2.1 rfl; have py5 := cellOf (o := 5) HU.out.two.2.1 rfl
            clear hU hb)))
      have hU : OrdU w #[.int .i64 a.kind, .bool a.b, .int .i64 a.n, .string (strB a.text), .slice pk a.keys.length ck, .slice pl a.list.length cl] #[.int .i64 b.kind, .bool b.b, .int .i64 b.n, .string (strB b.text), .slice pk' b.keys.length ck', .slice pl' b.list.length cl'] a b p q #[.int .i64 a.kind, .bool a.b, .int .i64 a.n, .string (strB a.text), .slice pk3 a.keys.length ck3, .slice pl3 a.list.length cl3] #[.int .i64 b.kind, .bool b.b, .int .i64 b.n, .string (strB b.text), .slice pk4 b.keys.length ck4, .slice pl4 b.list.length cl4] _ := HU.out.keep (Below.refl _ _).drew
      refine plain_region_draws (fun W => OrdU w #[.int .i64 a.kind, .bool a.b, .int .i64 a.n, .string (strB a.text), .slice pk a.keys.length ck, .slice pl a.list.length cl] #[.int .i64 b.kind, .bool b.b, .int .i64 b.n, .string (strB b.text), .slice pk' b.keys.length ck', .slice pl' b.list.length cl'] a b p q #[.int .i64 a.kind, .bool a.b, .int .i64 a.n, .string (strB a.text), .slice pk3 a.keys.length ck3, .slice pl3 a.list.length cl3] #[.int .i64 b.kind, .bool b.b, .int .i64 b.n, .string (strB b.text), .slice pk4 b.keys.length ck4, .slice pl4 b.list.length cl4] W) (by kernel_rfl) hU (fun hU => ?_)
      clear HU
      generalize World.drew _ = W5 at *
      (try clear px0 px1 px2 px3 px4 px5 py0 py1 py2 py3 py4 py5)
      refine take 0 25 (v := .agg #[.int .i64 a.kind, .bool a.b, .int .i64 a.n, .string (strB a.text), .slice pk3 a.keys.length ck3, .slice pl3 a.list.length cl3]) rfl rfl (by kernel_rfl) (by kernel_rfl) (by kernel_rfl) rfl (fun W hW => exec_load rfl rfl (get_val hW.hm)) (by assumption) ?_
      simp only [Act.put, List.setIfInBounds_toArray, List.set_cons_zero, List.set_cons_succ]
      refine take 1 26 (v := .agg #[.int .i64 b.kind, .bool b.b, .int .i64 b.n, .string (strB b.text), .slice pk4 b.keys.length ck4, .slice pl4 b.list.length cl4]) rfl rfl (by kernel_rfl) (by kernel_rfl) (by kernel_rfl) rfl (fun W hW => exec_load rfl rfl (get_val hW.hn)) (by assumption) ?_
      simp only [Act.put, List.setIfInBounds_toArray, List.set_cons_zero, List.set_cons_succ]
      refine take 3 28 (v := .int .i64 0) rfl rfl (by kernel_rfl) (by kernel_rfl) (by kernel_rfl) rfl (fun W hW => exec_move rfl rfl) (by assumption) ?_
      simp only [Act.put, List.setIfInBounds_toArray, List.set_cons_zero, List.set_cons_succ]
      refine onlyCall 2 27 rfl rfl (by kernel_rfl) rfl (exec_call [.agg #[.int .i64 a.kind, .bool a.b, .int .i64 a.n, .string (strB a.text), .slice pk3 a.keys.length ck3, .slice pl3 a.list.length cl3], .agg #[.int .i64 b.kind, .bool b.b, .int .i64 b.n, .string (strB b.text), .slice pk4 b.keys.length ck4, .slice pl4 b.list.length cl4]] rfl rfl Tryz.func20 (by kernel_rfl) (by kernel_rfl)) ?_
      refine (HC1.out _ _ _ _ _ hU).mono ?_
      rintro e w5 ⟨rfl, hU⟩
      refine ⟨_, rfl, .inr (by assumption), ?_⟩
      simp only [Act.put, List.setIfInBounds_toArray, List.set_cons_zero, List.set_cons_succ]
      refine take 4 29 (v := .bool true) rfl rfl (by kernel_rfl) (by kernel_rfl) (by kernel_rfl) rfl (fun W hW => exec_bini rfl rfl rfl (eC W)) (by assumption) ?_
      simp only [Act.put, List.setIfInBounds_toArray, List.set_cons_zero, List.set_cons_succ]
      refine take 5 30 (v := .bool true) rfl rfl (by kernel_rfl) (by kernel_rfl) (by kernel_rfl) rfl (fun W hW => exec_move rfl rfl) (by assumption) ?_
      simp only [Act.put, List.setIfInBounds_toArray, List.set_cons_zero, List.set_cons_succ]
      refine take 6 31 (v := .agg #[.int .i64 b.kind, .bool b.b, .int .i64 b.n, .string (strB b.text), .slice pk4 b.keys.length ck4, .slice pl4 b.list.length cl4]) rfl rfl (by kernel_rfl) (by kernel_rfl) (by kernel_rfl) rfl (fun W hW => exec_load rfl rfl (get_val hW.hn)) (by assumption) ?_
      simp only [Act.put, List.setIfInBounds_toArray, List.set_cons_zero, List.set_cons_succ]
      refine take 7 32 (v := .agg #[.int .i64 a.kind, .bool a.b, .int .i64 a.n, .string (strB a.text), .slice pk3 a.keys.length ck3, .slice pl3 a.list.length cl3]) rfl rfl (by kernel_rfl) (by kernel_rfl) (by kernel_rfl) rfl (fun W hW => exec_load rfl rfl (get_val hW.hm)) (by assumption) ?_
      simp only [Act.put, List.setIfInBounds_toArray, List.set_cons_zero, List.set_cons_succ]
      refine take 9 34 (v := .int .i64 0) rfl rfl (by kernel_rfl) (by kernel_rfl) (by kernel_rfl) rfl (fun W hW => exec_move rfl rfl) (by assumption) ?_
      simp only [Act.put, List.setIfInBounds_toArray, List.set_cons_zero, List.set_cons_succ]
      refine take 10 35 (v := .int .i64 0) rfl rfl (by kernel_rfl) (by kernel_rfl) (by kernel_rfl) rfl (fun W hW => exec_neg rfl rfl (eN W)) (by assumption) ?_
      simp only [Act.put, List.setIfInBounds_toArray, List.set_cons_zero, List.set_cons_succ]
      refine onlyCall 8 33 rfl rfl (by kernel_rfl) rfl (exec_call [.agg #[.int .i64 b.kind, .bool b.b, .int .i64 b.n, .string (strB b.text), .slice pk4 b.keys.length ck4, .slice pl4 b.list.length cl4], .agg #[.int .i64 a.kind, .bool a.b, .int .i64 a.n, .string (strB a.text), .slice pk3 a.keys.length ck3, .slice pl3 a.list.length cl3]] rfl rfl Tryz.func20 (by kernel_rfl) (by kernel_rfl)) ?_
      refine (HC2.out _ _ _ _ _ hU).mono ?_
      rintro e w5 ⟨rfl, hU⟩
      refine ⟨_, rfl, .inr (by assumption), ?_⟩
      simp only [Act.put, List.setIfInBounds_toArray, List.set_cons_zero, List.set_cons_succ]
      refine take 11 36 (v := .bool true) rfl rfl (by kernel_rfl) (by kernel_rfl) (by kernel_rfl) rfl (fun W hW => exec_bini rfl rfl rfl (eCN W)) (by assumption) ?_
      simp only [Act.put, List.setIfInBounds_toArray, List.set_cons_zero, List.set_cons_succ]
      refine take 12 37 (v := .bool true) rfl rfl (by kernel_rfl) (by kernel_rfl) (by kernel_rfl) rfl (fun W hW => rfl) (by assumption) ?_
      simp only [Act.put, List.setIfInBounds_toArray, List.set_cons_zero, List.set_cons_succ]
      refine take 13 38 (v := .bool true) rfl rfl (by kernel_rfl) (by kernel_rfl) (by kernel_rfl) rfl (fun W hW => exec_move rfl rfl) (by assumption) ?_
      simp only [Act.put, List.setIfInBounds_toArray, List.set_cons_zero, List.set_cons_succ]
      refine take 14 39 (v := .agg #[.int .i64 a.kind, .bool a.b, .int .i64 a.n, .string (strB a.text), .slice pk3 a.keys.length ck3, .slice pl3 a.list.length cl3]) rfl rfl (by kernel_rfl) (by kernel_rfl) (by kernel_rfl) rfl (fun W hW => exec_load rfl rfl (get_val hW.hm)) (by assumption) ?_
      simp only [Act.put, List.setIfInBounds_toArray, List.set_cons_zero, List.set_cons_succ]
      refine take 15 40 (v := .agg #[.int .i64 b.kind, .bool b.b, .int .i64 b.n, .string (strB b.text), .slice pk4 b.keys.length ck4, .slice pl4 b.list.length cl4]) rfl rfl (by kernel_rfl) (by kernel_rfl) (by kernel_rfl) rfl (fun W hW => exec_load rfl rfl (get_val hW.hn)) (by assumption) ?_
      simp only [Act.put, List.setIfInBounds_toArray, List.set_cons_zero, List.set_cons_succ]
      refine take 17 42 (v := .agg #[.int .i64 a.kind, .bool a.b, .int .i64 a.n, .string (strB a.text), .slice pk a.keys.length ck, .slice pl a.list.length cl]) rfl rfl (by kernel_rfl) (by kernel_rfl) (by kernel_rfl) rfl (fun W hW => exec_load rfl rfl (get_val hW.two.1)) (by assumption) ?_
      simp only [Act.put, List.setIfInBounds_toArray, List.set_cons_zero, List.set_cons_succ]
      refine take 18 43 (v := .agg #[.int .i64 b.kind, .bool b.b, .int .i64 b.n, .string (strB b.text), .slice pk' b.keys.length ck', .slice pl' b.list.length cl']) rfl rfl (by kernel_rfl) (by kernel_rfl) (by kernel_rfl) rfl (fun W hW => exec_load rfl rfl (get_val hW.two.2.1)) (by assumption) ?_
      simp only [Act.put, List.setIfInBounds_toArray, List.set_cons_zero, List.set_cons_succ]
      refine any_order [16, 19] (fun i W v lo hi => match i with | 16 => v = .bool false | _ => v = .slice (some ⟨lo, 0, none⟩) 2 2 ∧ lo < hi ∧ W.heap[lo]? = some (.cells #[.int .i64 a.kind, .bool a.b, .int .i64 a.n, .string (strB a.text), .slice pk a.keys.length ck, .slice pl a.list.length cl, .int .i64 b.kind, .bool b.b, .int .i64 b.n, .string (strB b.text), .slice pk' b.keys.length ck', .slice pl' b.list.length cl'] 26 (0, 0))) 21 (by kernel_rfl) (by kernel_rfl) rfl (by kernel_rfl) (by kernel_rfl) (Nat.le_of_ble_eq_true (by kernel_rfl)) (fun _ hb => hU.keep hb) ?_ ?_ [41, 44] (by kernel_rfl) ?_
      · intro i hi w w' v lo hi1 hh hb h
        simp only [List.mem_cons, List.not_mem_nil, or_false] at hi
        rcases hi with rfl | rfl
        · exact h
        · obtain ⟨h1, h2, h3⟩ := h
          exact ⟨h1, h2, (hb.block _ (by omega)).trans h3⟩
      · intro i hi a1 w1 v lo hi1 hs
        have hU1 := hU.keep hs.below
        simp only [List.mem_cons, List.not_mem_nil, or_false] at hi
        rcases hi with rfl | rfl
        · refine opCall 16 41 rfl rfl (wanted_slot rfl rfl (hs.cell 38 (.bool true) (by kernel_rfl) rfl)) (exec_call [.agg #[.int .i64 a.kind, .bool a.b, .int .i64 a.n, .string (strB a.text), .slice pk3 a.keys.length ck3, .slice pl3 a.list.length cl3], .agg #[.int .i64 b.kind, .bool b.b, .int .i64 b.n, .string (strB b.text), .slice pk4 b.keys.length ck4, .slice pl4 b.list.length cl4]] rfl (two_evals (hs.old 39 (.agg #[.int .i64 a.kind, .bool a.b, .int .i64 a.n, .string (strB a.text), .slice pk3 a.keys.length ck3, .slice pl3 a.list.length cl3]) (by kernel_rfl) rfl) (hs.old 40 (.agg #[.int .i64 b.kind, .bool b.b, .int .i64 b.n, .string (strB b.text), .slice pk4 b.keys.length ck4, .slice pl4 b.list.length cl4]) (by kernel_rfl) rfl)) Tryz.func21 (by kernel_rfl) (by kernel_rfl)) ?_
          exact (HSA.out _ _ _ _ _ hU1).mono fun e w' ⟨h1, h2⟩ => ⟨_, h1, _, rfl, h2, rfl⟩
        · exact opRun 19 44 rfl rfl (wanted_slot rfl rfl (hs.cell 38 (.bool true) (by kernel_rfl) rfl)) (exec_buildSlice2 rfl (hs.old 42 (.agg #[.int .i64 a.kind, .bool a.b, .int .i64 a.n, .string (strB a.text), .slice pk a.keys.length ck, .slice pl a.list.length cl]) (by kernel_rfl) rfl) (hs.old 43 (.agg #[.int .i64 b.kind, .bool b.b, .int .i64 b.n, .string (strB b.text), .slice pk' b.keys.length ck', .slice pl' b.list.length cl']) (by kernel_rfl) rfl) (run_two _ _ _ _ _ _ _ _ _ _ _ _ _)) ⟨_, rfl, below_new _, rfl, by simp, heap_alloc_new _ _⟩
      intro v lo hi1 W4 hb hf _
      have e16 : v 16 = .bool false := (hf 16 (by simp)).1
      obtain ⟨⟨e19, l19, h19⟩, r19⟩ := hf 19 (by simp)
      have hU0 := hU
      have hU := hU.keep hb
      clear hf
      simp only [List.zip_cons_cons, List.zip_nil_right, List.zip_nil_left, List.foldl_cons, List.foldl_nil, e16, e19, Act.put, List.setIfInBounds_toArray, List.set_cons_zero, List.set_cons_succ]
      clear e16 e19 hU0 hb
      generalize lo 19 = g at *
      refine onlyCall 20 45 rfl rfl (by kernel_rfl) rfl (exec_call [.slice (some ⟨g, 0, none⟩) 2 2] rfl rfl Tryz.func18 (by kernel_rfl) (by kernel_rfl)) ?_
      refine (HFI.out _ _ hU.two.2.2 h19).mono ?_
      rintro e w5 ⟨rfl, hb⟩
      have hU := hU.keep hb
      clear hb
      refine ⟨_, rfl, .inr (by assumption), ?_⟩
      simp only [Act.put, List.setIfInBounds_toArray, List.set_cons_zero, List.set_cons_succ]
      refine take 21 46 (v := .bool false) rfl rfl (by kernel_rfl) (by kernel_rfl) (by kernel_rfl) rfl (fun W hW => exec_move rfl rfl) (by assumption) ?_
      simp only [Act.put, List.setIfInBounds_toArray, List.set_cons_zero, List.set_cons_succ]
      refine takeNot 22 47 rfl rfl (by kernel_rfl) (by kernel_rfl) (by kernel_rfl) rfl (by assumption) ?_
      simp only [Act.put, List.setIfInBounds_toArray, List.set_cons_zero, List.set_cons_succ]
      refine takeNot 23 48 rfl rfl (by kernel_rfl) (by kernel_rfl) (by kernel_rfl) rfl (by assumption) ?_
      simp only [Act.put, List.setIfInBounds_toArray, List.set_cons_zero, List.set_cons_succ]
      refine take 24 49 (v := .bool false) rfl rfl (by kernel_rfl) (by kernel_rfl) (by kernel_rfl) rfl (fun W hW => rfl) (by assumption) ?_
      simp only [Act.put, List.setIfInBounds_toArray, List.set_cons_zero, List.set_cons_succ]
      refine take 25 50 (v := .bool true) rfl rfl (by kernel_rfl) (by kernel_rfl) (by kernel_rfl) rfl (fun W hW => exec_binbb rfl rfl rfl (eS W)) (by assumption) ?_
      simp only [Act.put, List.setIfInBounds_toArray, List.set_cons_zero, List.set_cons_succ]
      refine take 26 51 (v := .bool true) rfl rfl (by kernel_rfl) (by kernel_rfl) (by kernel_rfl) rfl (fun W hW => rfl) (by assumption) ?_
      simp only [Act.put, List.setIfInBounds_toArray, List.set_cons_zero, List.set_cons_succ]
      refine take 27 52 (v := .bool true) rfl rfl (by kernel_rfl) (by kernel_rfl) (by kernel_rfl) rfl (fun W hW => exec_move rfl rfl) (by assumption) ?_
      simp only [Act.put, List.setIfInBounds_toArray, List.set_cons_zero, List.set_cons_succ]
      refine take 28 53 (v := .agg #[.int .i64 a.kind, .bool a.b, .int .i64 a.n, .string (strB a.text), .slice pk3 a.keys.length ck3, .slice pl3 a.list.length cl3]) rfl rfl (by kernel_rfl) (by kernel_rfl) (by kernel_rfl) rfl (fun W hW => exec_load rfl rfl (get_val hW.hm)) (by assumption) ?_
      simp only [Act.put, List.setIfInBounds_toArray, List.set_cons_zero, List.set_cons_succ]
      refine take 29 54 (v := .agg #[.int .i64 a.kind, .bool a.b, .int .i64 a.n, .string (strB a.text), .slice pk a.keys.length ck, .slice pl a.list.length cl]) rfl rfl (by kernel_rfl) (by kernel_rfl) (by kernel_rfl) rfl (fun W hW => exec_load rfl rfl (get_val hW.two.1)) (by assumption) ?_
      simp only [Act.put, List.setIfInBounds_toArray, List.set_cons_zero, List.set_cons_succ]
      refine onlyCall 30 55 rfl rfl (by kernel_rfl) rfl (exec_call [.agg #[.int .i64 a.kind, .bool a.b, .int .i64 a.n, .string (strB a.text), .slice pk3 a.keys.length ck3, .slice pl3 a.list.length cl3], .agg #[.int .i64 a.kind, .bool a.b, .int .i64 a.n, .string (strB a.text), .slice pk a.keys.length ck, .slice pl a.list.length cl]] rfl rfl Tryz.func22 (by kernel_rfl) (by kernel_rfl)) ?_
      refine (HK1.out _ _ _ _ _ hU).mono ?_
      rintro e w5 ⟨rfl, hU⟩
      refine ⟨_, rfl, .inr (by assumption), ?_⟩
      simp only [Act.put, List.setIfInBounds_toArray, List.set_cons_zero, List.set_cons_succ]
      refine take 31 56 (v := .bool true) rfl rfl (by kernel_rfl) (by kernel_rfl) (by kernel_rfl) rfl (fun W hW => rfl) (by assumption) ?_
      simp only [Act.put, List.setIfInBounds_toArray, List.set_cons_zero, List.set_cons_succ]
      refine take 32 57 (v := .bool true) rfl rfl (by kernel_rfl) (by kernel_rfl) (by kernel_rfl) rfl (fun W hW => exec_move rfl rfl) (by assumption) ?_
      simp only [Act.put, List.setIfInBounds_toArray, List.set_cons_zero, List.set_cons_succ]
      refine take 33 58 (v := .agg #[.int .i64 b.kind, .bool b.b, .int .i64 b.n, .string (strB b.text), .slice pk4 b.keys.length ck4, .slice pl4 b.list.length cl4]) rfl rfl (by kernel_rfl) (by kernel_rfl) (by kernel_rfl) rfl (fun W hW => exec_load rfl rfl (get_val hW.hn)) (by assumption) ?_
      simp only [Act.put, List.setIfInBounds_toArray, List.set_cons_zero, List.set_cons_succ]
      refine take 34 59 (v := .agg #[.int .i64 b.kind, .bool b.b, .int .i64 b.n, .string (strB b.text), .slice pk' b.keys.length ck', .slice pl' b.list.length cl']) rfl rfl (by kernel_rfl) (by kernel_rfl) (by kernel_rfl) rfl (fun W hW => exec_load rfl rfl (get_val hW.two.2.1)) (by assumption) ?_
      simp only [Act.put, List.setIfInBounds_toArray, List.set_cons_zero, List.set_cons_succ]
      refine onlyCall 35 60 rfl rfl (by kernel_rfl) rfl (exec_call [.agg #[.int .i64 b.kind, .bool b.b, .int .i64 b.n, .string (strB b.text), .slice pk4 b.keys.length ck4, .slice pl4 b.list.length cl4], .agg #[.int .i64 b.kind, .bool b.b, .int .i64 b.n, .string (strB b.text), .slice pk' b.keys.length ck', .slice pl' b.list.length cl']] rfl rfl Tryz.func22 (by kernel_rfl) (by kernel_rfl)) ?_
      refine (HK2.out _ _ _ _ _ hU).mono ?_
      rintro e w5 ⟨rfl, hU⟩
      refine ⟨_, rfl, .inr (by assumption), ?_⟩
      simp only [Act.put, List.setIfInBounds_toArray, List.set_cons_zero, List.set_cons_succ]
      refine take 36 61 (v := .bool true) rfl rfl (by kernel_rfl) (by kernel_rfl) (by kernel_rfl) rfl (fun W hW => rfl) (by assumption) ?_
      simp only [Act.put, List.setIfInBounds_toArray, List.set_cons_zero, List.set_cons_succ]
      refine take 37 62 (v := .bool true) rfl rfl (by kernel_rfl) (by kernel_rfl) (by kernel_rfl) rfl (fun W hW => exec_move rfl rfl) (by assumption) ?_
      simp only [Act.put, List.setIfInBounds_toArray, List.set_cons_zero, List.set_cons_succ]
      refine onlyCall 38 63 rfl rfl (by kernel_rfl) rfl (exec_call [] rfl rfl Tryz.func16 (by kernel_rfl) (by kernel_rfl)) ?_
      refine (HWK.out _ _ _ _ _ hU).mono ?_
      rintro e w5 ⟨rfl, hU⟩
      refine ⟨_, rfl, .inr (by assumption), ?_⟩
      simp only [Act.put, List.setIfInBounds_toArray, List.set_cons_zero, List.set_cons_succ]
      refine take 39 64 (v := .bool true) rfl rfl (by kernel_rfl) (by kernel_rfl) (by kernel_rfl) rfl (fun W hW => rfl) (by assumption) ?_
      simp only [Act.put, List.setIfInBounds_toArray, List.set_cons_zero, List.set_cons_succ]
      refine take 40 4 (v := .bool true) rfl rfl (by kernel_rfl) (by kernel_rfl) (by kernel_rfl) rfl (fun W hW => exec_assign rfl rfl) (by assumption) ?_
      simp only [Act.put, List.setIfInBounds_toArray, List.set_cons_zero, List.set_cons_succ]
      refine done (by kernel_rfl) ?_ _
      go_wp2
      go_ret
      exact ⟨rfl, hU.two.2.2⟩
  · have HW := Lib.hid (fun (W : World) (h : TwoV w W #[.int .i64 a.kind, .bool a.b, .int .i64 a.n, .string (strB a.text), .slice pk a.keys.length ck, .slice pl a.list.length cl] #[.int .i64 b.kind, .bool b.b, .int .i64 b.n, .string (strB b.text), .slice pk' b.keys.length ck', .slice pl' b.list.length cl']) => (works_any (hE.b h.2.2)).mono (R' := fun e w' => e = .returned (.bool true) ∧ TwoV w w' #[.int .i64 a.kind, .bool a.b, .int .i64 a.n, .string (strB a.text), .slice pk a.keys.length ck, .slice pl a.list.length cl] #[.int .i64 b.kind, .bool b.b, .int .i64 b.n, .string (strB b.text), .slice pk' b.keys.length ck', .slice pl' b.list.length cl']) fun _ _ h' => ⟨h'.1, h.below h'.2⟩)
    rw [decide_eq_false hs] at HSM
    clear hE ha hb hT hts hs
    go_enter Tryz.func3, Tryz.ntmps3
    go_wp2_with (first
        | (go_at_call 15
           (refine (HSM.out).mono ?_
            rintro e w1 ⟨rfl, hT1⟩
            have px0 := cellOf (o := 0) hT1.1 rfl; have px1 := cellOf (o := 1) hT1.1 rfl; have px2 := cellOf (o := 2) hT1.1 rfl; have px3 := cellOf (o := 3) hT1.1 rfl; have px4 := cellOf (o := 4) hT1.1 rfl; have px5 := cellOf (o := 5) hT1.1 rfl
            have py0 := cellOf (o := 0) hT1.2.1 rfl; have py1 := cellOf (o := 1) hT1.2.1 rfl; have py2 := cellOf (o := 2) hT1.2.1 rfl; have py3 := cellOf (o := 3) hT1.2.1 rfl; have py4 := cellOf (o := 4) hT1.2.1 rfl; have py5 := cellOf (o := 5) hT1.2.1 rfl
            have HT := Lib.hid hT1
            clear hT1))
        | (go_at_call 16
           (refine (HW.out _ HT.out).mono ?_
            rintro e w9 ⟨rfl, hT1⟩
            have px0 := cellOf (o := 0) hT1.1 rfl; have px1 := cellOf (o := 1) hT1.1 rfl; have px2 := cellOf (o := 2) hT1.1 rfl; have px3 := cellOf (o := 3) hT1.1 rfl; have px4 := cellOf (o := 4) hT1.1 rfl; have px5 := cellOf (o := 5) hT1.1 rfl
            have py0 := cellOf (o := 0) hT1.2.1 rfl; have py1 := cellOf (o := 1) hT1.2.1 rfl; have py2 := cellOf (o := 2) hT1.2.1 rfl; have py3 := cellOf (o := 3) hT1.2.1 rfl; have py4 := cellOf (o := 4) hT1.2.1 rfl; have py5 := cellOf (o := 5) hT1.2.1 rfl
            have HT := Lib.hid hT1
            clear hT1)))
    go_ret
    exact ⟨rfl, HT.out.2.2⟩
end Go.Proofs.YtnkaegdnjfpliaaGreatDoor

/-! ValueOrders: for every two values the law returns true, and the arguments read as they did. The listed tables of Go's library read as the program's text lays them. -/
namespace Go.Proofs.YtnkaegdnjfpliaaGreatDoor
set_option linter.unusedSimpArgs false
set_option linter.unusedVariables false
open Go.ChangeShapes Go.WideShapes Go.ChangeAt Go.RowKit Go.Joins

set_option maxRecDepth 100000 in
theorem valueOrders_lifted (os : Os) (started : os.Started) (H : Type) (enc : TypeId × Value → H) :
    ReturnsInHanded {} Tryz.checked os 3 .any (fun w args => (Rows.valueOrdersSpec.pre enc Tryz.prog Tryz.f3 [] false w args ∧ laidMetH Tryz.prog LD w) ∧ sizedMet enc Tryz.prog Tryz.f3 (OpenSpec.ofChange Rows.valueOrdersSpec) false w args)
      (Rows.valueOrdersSpec.post enc Tryz.prog Tryz.f3 false true false false) := by
  refine returns_tied started (by kernel_rfl) Tryz.func3 #[.agg (flatX 0 false 0 []), .agg (flatX 0 false 0 [])] (by kernel_rfl) (by kernel_rfl) (by kernel_rfl) (wit_shape _ _) (wit_laid _ _) ?_
  intro W base args ds gs before hval0 hW hz hE
  have hval : ∀ (j : Nat) t v, Tryz.f3.params[j]? = some t → args[j]? = some v → Value.okWide Tryz.prog W .any base t v := hval0
  have hW' := hW
  obtain ⟨p, q, hA0, hV, rfl, hfz, hnd⟩ := hW
  have hA : DataW.TrodAll enc Tryz.prog W 0 (fun _ => true) true Tryz.f3.params.toList args.toList ds p := hA0
  rw [Tryz.params3] at hA hval
  obtain ⟨v0, vs0, d0, ds0, p0, q0, hargs, rfl, rfl, h0, r0⟩ := trodAll_cons hA
  obtain ⟨v1, vs1, d1, ds1, p1, q1, rfl, rfl, rfl, h1, r1⟩ := trodAll_cons r0
  obtain ⟨rfl, rfl, rfl⟩ := trodAll_nil r1
  obtain ⟨rfl, rfl⟩ := trodVars_none hV
  obtain rfl : args = #[v0, v1] := by cases args; simp_all
  rw [Tryz.params3] at hz
  obtain ⟨z0, z1⟩ := fits_two hz
  obtain ⟨a0, x0, rfl, hx0, hr0⟩ := value_in (hval 0 26 v0 rfl rfl) h0 z0
  obtain ⟨a1, x1, rfl, hx1, hr1⟩ := value_in (hval 1 26 v1 rfl rfl) h1 z1
  clear hA0 hval0
  refine (orders_law hE hx0 hx1).mono fun e W' ⟨he, hg⟩ => ?_
  subst he
  exact ⟨_, rfl, law_post laidT (by decide +kernel) Tryz.underlying4 (by kernel_rfl) rfl hW' rfl hg⟩
theorem valueOrders_row : Rows.ValueOrdersSaid :=
  OpenClaim.holds_of_wide 3 Tryz.f3 rfl rfl rfl rfl rfl rfl rfl ⟨rfl, rfl, rfl, rfl, rfl⟩ rfl rfl rfl rfl rfl (by kernel_rfl) Tryz.func3 (by kernel_rfl)
    (of_decide_eq_true (by kernel_rfl)) (by unfold Func.isWrapper; first | (rw [if_pos (by decide +kernel)]; kernel_rfl) | (rw [if_neg (by decide +kernel)]; exact ⟨rfl, rfl⟩))
    (fun os started H enc _ => valueOrders_lifted os started H enc)
theorem orders_law_holds : Rows.ValueOrdersCardSaid :=
  Claim7.holds_tied_plain_at .later [] [.data, .data, .data, .data, .pinned] true (true, "541050135a4ae63573153b942905868de3e811d8a5bb89e3a2a615778747f658") true
    valueOrders_row (fun _ h => by cases h) (by kernel_rfl) (fun _ h => by cases h) valueOrders_row_tie rfl ⟨rfl, rfl⟩ (by kernel_rfl) rfl
    (fun f fn hf hfn => by
      obtain rfl : f = 3 := Option.some.inj ((show Tryz.prog.funcNamed "lattice/latticelaw01.ValueOrders" = some 3 by kernel_rfl).symm.trans hf) |>.symm
      obtain rfl : fn = Tryz.f3 := (Option.some.inj (Tryz.func3.symm.trans hfn)).symm
      exact ⟨by kernel_rfl, fun j t ht => by
        rw [Tryz.params3] at ht
        have hm : t ∈ [26, 26] := by simpa using Array.mem_of_getElem? ht
        have hall : ([26, 26].all fun u => !Tryz.prog.wantsStandIn u) = true := by kernel_rfl
        exact (show Tryz.prog.wantsStandIn t = false by simpa using List.all_eq_true.1 hall t hm)⟩)
    (by kernel_rfl)
#print axioms orders_law_holds
end Go.Proofs.YtnkaegdnjfpliaaGreatDoor
