/- ValueTotal: the order of values is total. Printed by gen_total.py. -/
import Derived.Test.YtnkaegdnjfpliaaGreatDoorVwork
namespace Go.Proofs.YtnkaegdnjfpliaaGreatDoor
set_option linter.unusedSimpArgs false
set_option linter.unusedVariables false
open Go.RowKit

/-! ### The plain law -/
/-- What three answers may be. -/
def Combo (x y z : Int) : Prop := (x = 0 ∧ y = 0 ∧ z = 0) ∨ (x = 0 ∧ y = 1 ∧ z = 1) ∨ (x = 0 ∧ y = -1 ∧ z = -1) ∨ (x = -1 ∧ y = -1 ∧ z = -1) ∨ (x = -1 ∧ y = 0 ∧ z = -1) ∨ (x = -1 ∧ y = 1 ∧ z = -1) ∨ (x = -1 ∧ y = 1 ∧ z = 0) ∨ (x = -1 ∧ y = 1 ∧ z = 1) ∨
  (x = 1 ∧ y = 1 ∧ z = 1) ∨ (x = 1 ∧ y = 0 ∧ z = 1) ∨ (x = 1 ∧ y = -1 ∧ z = -1) ∨ (x = 1 ∧ y = -1 ∧ z = 0) ∨ (x = 1 ∧ y = -1 ∧ z = 1)
theorem combo (a b c : V) : Combo (cmpV a b) (cmpV b c) (cmpV a c) := by
  have h1 := (ord_cmpV a).range b
  have h2 := (ord_cmpV b).range c
  have h3 := (ord_cmpV a).range c
  have n1 := (ord_cmpV a).anti b
  have n2 := (ord_cmpV b).anti c
  have n3 := (ord_cmpV a).anti c
  have c1 := (ord_cmpV a).chain b c
  have c2 := (ord_cmpV a).congr b c
  have c3 := (ord_cmpV c).chain b a
  have c4 := (ord_cmpV b).congr c a
  have a1 : cmpV a b = -1 → cmpV b c ≤ 0 → cmpV a c = -1 := c1
  have a2 : cmpV a b = 1 → cmpV b c = 0 → cmpV a c = 1 := fun e1 e2 => by have := c4 e2; omega
  have a3 : cmpV a b = 1 → cmpV b c = 1 → cmpV a c = 1 := fun e1 e2 => by have := c3 (by omega) (by omega); omega
  clear c1 c3 c4 n1 n2 n3
  unfold Combo
  generalize cmpV a b = X at *
  generalize cmpV b c = Y at *
  generalize cmpV a c = Z at *
  rcases h1 with rfl | rfl | rfl <;> rcases h2 with rfl | rfl | rfl
  · simp [a1 rfl (by decide)]
  · simp [a1 rfl (by decide)]
  · rcases h3 with rfl | rfl | rfl <;> simp
  · simp [c2 rfl]
  · simp [c2 rfl]
  · simp [c2 rfl]
  · rcases h3 with rfl | rfl | rfl <;> simp
  · simp [a2 rfl rfl]
  · simp [a3 rfl rfl]
/-! ### The walk -/
theorem LRd.three {W : World} {g : Nat} {a b c : V} {c0 c1 c2 c3 c4 c5 d0 d1 d2 d3 d4 d5 e0 e1 e2 e3 e4 e5 : Value} (h : W.heap[g]? = some (.cells #[c0, c1, c2, c3, c4, c5, d0, d1, d2, d3, d4, d5, e0, e1, e2, e3, e4, e5] 26 (0, 0))) (ha : VRd W a #[c0, c1, c2, c3, c4, c5]) (hb : VRd W b #[d0, d1, d2, d3, d4, d5]) (hc : VRd W c #[e0, e1, e2, e3, e4, e5]) : LRd W (some ⟨g, 0, none⟩) 3 [a, b, c] := by
  refine ⟨⟨by simp, ⟨by simp, by omega⟩, fun e => by cases e⟩, fun ad had => ?_⟩
  cases had
  refine ⟨fun _ => rfl, fun j v hv => ?_⟩
  match j, hv with
  | 0, hv => cases hv; exact ⟨_, ⟨c0, c1, c2, c3, c4, c5, rfl, cellOf (o := 0) h rfl, cellOf (o := 1) h rfl, cellOf (o := 2) h rfl, cellOf (o := 3) h rfl, cellOf (o := 4) h rfl, cellOf (o := 5) h rfl⟩, ha⟩
  | 1, hv => cases hv; exact ⟨_, ⟨d0, d1, d2, d3, d4, d5, rfl, cellOf (o := 6) h rfl, cellOf (o := 7) h rfl, cellOf (o := 8) h rfl, cellOf (o := 9) h rfl, cellOf (o := 10) h rfl, cellOf (o := 11) h rfl⟩, hb⟩
  | 2, hv => cases hv; exact ⟨_, ⟨e0, e1, e2, e3, e4, e5, rfl, cellOf (o := 12) h rfl, cellOf (o := 13) h rfl, cellOf (o := 14) h rfl, cellOf (o := 15) h rfl, cellOf (o := 16) h rfl, cellOf (o := 17) h rfl⟩, hc⟩
  | j + 3, hv => simp at hv
/-- Three boxes. -/
structure Box3 (w : World) (x y z : Array Value) (W : World) : Prop where
  one : W.heap[w.heap.size]? = some (.cells x 26 (0, 0))
  two : W.heap[w.heap.size + 1]? = some (.cells y 26 (0, 0))
  three : W.heap[w.heap.size + 1 + 1]? = some (.cells z 26 (0, 0))
  below : Below w.heap.size w W
theorem Box3.keep {w W W' : World} {x y z : Array Value} (h : Box3 w x y z W) (g : Below W.heap.size W W') : Box3 w x y z W' :=
  ⟨belowBlk g (Array.getElem?_eq_some_iff.1 h.one).1 h.one, belowBlk g (Array.getElem?_eq_some_iff.1 h.two).1 h.two, belowBlk g (Array.getElem?_eq_some_iff.1 h.three).1 h.three, below_trans h.below g⟩
theorem Box3.start (w : World) (x y z : Array Value) : Box3 w x y z (((w.alloc (.cells x 26)).alloc (.cells y 26)).alloc (.cells z 26)) := by
  obtain ⟨h1, h2, h3⟩ := TwoV.start w x y
  have hb := below_new (w := (w.alloc (.cells x 26)).alloc (.cells y 26)) (.cells z 26)
  have h4 := heap_alloc_new ((w.alloc (.cells x 26)).alloc (.cells y 26)) (.cells z 26)
  simp only [World.size_alloc] at h4
  exact ⟨belowBlk hb (Array.getElem?_eq_some_iff.1 h1).1 h1, belowBlk hb (Array.getElem?_eq_some_iff.1 h2).1 h2, h4, below_trans h3 hb⟩
theorem Box3.check {w W : World} {x y z u : Array Value} {v : V} (h : Box3 w x y z W) (hE : Env w) (hv : VRd w v u) (ht : totV v ≤ 1099511627776) : Calls Tryz.prog 45 #[.agg u] W fun e w' => e = .returned (.int .i64 (checkV Lib.validD v)) ∧ Box3 w x y z w' :=
  (check_ok (hE.b h.below) (hv.below h.below) ht).mono fun _ _ h' => ⟨h'.1, h.keep h'.2⟩
theorem Box3.cmp {w W : World} {x y z u u' : Array Value} {v v' : V} {n : Int} (h : Box3 w x y z W) (hE : Env w) (hv : VRd w v u) (hv' : VRd w v' u') (h1 : okV v = true) (h2 : okV v' = true) (ht : totV v + totV v' ≤ 1099511627776) (hn : cmpV v v' = n) : Calls Tryz.prog 20 #[.agg u, .agg u'] W fun e w' => e = .returned (.int .i64 n) ∧ Box3 w x y z w' :=
  (comparePub_any (hE.b h.below) (hv.below h.below) (hv'.below h.below) ht).mono fun _ _ h' => by
    rw [h1, h2, hn] at h'
    exact ⟨h'.1, h.keep h'.2⟩
theorem Box3.same {w W : World} {x y z u u' : Array Value} {v v' : V} {n : Bool} (h : Box3 w x y z W) (hE : Env w) (hv : VRd w v u) (hv' : VRd w v' u') (h1 : okV v = true) (h2 : okV v' = true) (ht : totV v + totV v' ≤ 1099511627776) (hn : decide (cmpV v v' = 0) = n) : Calls Tryz.prog 21 #[.agg u, .agg u'] W fun e w' => e = .returned (.bool n) ∧ Box3 w x y z w' :=
  (same_any (hE.b h.below) (hv.below h.below) (hv'.below h.below) ht).mono fun _ _ h' => by
    rw [h1, h2, hn] at h'
    exact ⟨by simpa using h'.1, h.keep h'.2⟩
theorem Box3.works {w W : World} {x y z : Array Value} (h : Box3 w x y z W) (hE : Env w) : Calls Tryz.prog 16 #[] W fun e w' => e = .returned (.bool true) ∧ Box3 w x y z w' :=
  (works_any (hE.b h.below)).mono fun _ _ h' => ⟨h'.1, h.keep h'.2⟩
set_option maxRecDepth 100000 in
set_option maxHeartbeats 8000000 in
theorem total_any {w : World} {a b c : V} {x y z : Array Value} (hE : Env w) (ha : VRd w a x) (hb : VRd w b y) (hc : VRd w c z) :
    Calls Tryz.prog 7 #[.agg x, .agg y, .agg z] w fun e w' => e = .returned (.bool true) ∧ Below w.heap.size w w' := by
  have hT := Box3.start w x y z
  obtain ⟨pk, ck, pl, cl, rfl, _⟩ := ha.open
  obtain ⟨pk', ck', pl', cl', rfl, _⟩ := hb.open
  obtain ⟨pk2, ck2, pl2, cl2, rfl, _⟩ := hc.open
  have HSM := Lib.hid (show Calls Tryz.prog 15 #[.slice (some ⟨w.heap.size + 1 + 1 + 1, 0, none⟩) 3 3] _ _ from by
    have hb1 := below_new (w := ((w.alloc (.cells #[.int .i64 a.kind, .bool a.b, .int .i64 a.n, .string (strB a.text), .slice pk a.keys.length ck, .slice pl a.list.length cl] 26)).alloc (.cells #[.int .i64 b.kind, .bool b.b, .int .i64 b.n, .string (strB b.text), .slice pk' b.keys.length ck', .slice pl' b.list.length cl'] 26)).alloc (.cells #[.int .i64 c.kind, .bool c.b, .int .i64 c.n, .string (strB c.text), .slice pk2 c.keys.length ck2, .slice pl2 c.list.length cl2] 26)) (.cells #[.int .i64 a.kind, .bool a.b, .int .i64 a.n, .string (strB a.text), .slice pk a.keys.length ck, .slice pl a.list.length cl, .int .i64 b.kind, .bool b.b, .int .i64 b.n, .string (strB b.text), .slice pk' b.keys.length ck', .slice pl' b.list.length cl', .int .i64 c.kind, .bool c.b, .int .i64 c.n, .string (strB c.text), .slice pk2 c.keys.length ck2, .slice pl2 c.list.length cl2] 26)
    have hbb := below_trans hT.below hb1
    have hh := heap_alloc_new (((w.alloc (.cells #[.int .i64 a.kind, .bool a.b, .int .i64 a.n, .string (strB a.text), .slice pk a.keys.length ck, .slice pl a.list.length cl] 26)).alloc (.cells #[.int .i64 b.kind, .bool b.b, .int .i64 b.n, .string (strB b.text), .slice pk' b.keys.length ck', .slice pl' b.list.length cl'] 26)).alloc (.cells #[.int .i64 c.kind, .bool c.b, .int .i64 c.n, .string (strB c.text), .slice pk2 c.keys.length ck2, .slice pl2 c.list.length cl2] 26)) (.cells #[.int .i64 a.kind, .bool a.b, .int .i64 a.n, .string (strB a.text), .slice pk a.keys.length ck, .slice pl a.list.length cl, .int .i64 b.kind, .bool b.b, .int .i64 b.n, .string (strB b.text), .slice pk' b.keys.length ck', .slice pl' b.list.length cl', .int .i64 c.kind, .bool c.b, .int .i64 c.n, .string (strB c.text), .slice pk2 c.keys.length ck2, .slice pl2 c.list.length cl2] 26)
    simp only [World.size_alloc] at hh
    exact (small_any (LRd.three hh (ha.below hbb) (hb.below hbb) (hc.below hbb))).mono (R' := fun e w' => e = .returned (.bool (decide (totVs [a, b, c] ≤ 2000))) ∧ Box3 w #[.int .i64 a.kind, .bool a.b, .int .i64 a.n, .string (strB a.text), .slice pk a.keys.length ck, .slice pl a.list.length cl] #[.int .i64 b.kind, .bool b.b, .int .i64 b.n, .string (strB b.text), .slice pk' b.keys.length ck', .slice pl' b.list.length cl'] #[.int .i64 c.kind, .bool c.b, .int .i64 c.n, .string (strB c.text), .slice pk2 c.keys.length ck2, .slice pl2 c.list.length cl2] w') fun _ _ h' => ⟨h'.1, (hT.keep hb1).keep h'.2⟩)
  have HW := Lib.hid (fun (W : World) (h : Box3 w #[.int .i64 a.kind, .bool a.b, .int .i64 a.n, .string (strB a.text), .slice pk a.keys.length ck, .slice pl a.list.length cl] #[.int .i64 b.kind, .bool b.b, .int .i64 b.n, .string (strB b.text), .slice pk' b.keys.length ck', .slice pl' b.list.length cl'] #[.int .i64 c.kind, .bool c.b, .int .i64 c.n, .string (strB c.text), .slice pk2 c.keys.length ck2, .slice pl2 c.list.length cl2] W) => h.works hE)
  have hts : totVs [a, b, c] = totV a + totV b + totV c := by simp [totVs]; omega
  have HR := Lib.hid (And.intro hE (And.intro ha (And.intro hb hc)))
  by_cases hs : totVs [a, b, c] ≤ 2000
  · rw [decide_eq_true hs] at HSM
    have HCA := Lib.hid (fun (W : World) (h : Box3 w #[.int .i64 a.kind, .bool a.b, .int .i64 a.n, .string (strB a.text), .slice pk a.keys.length ck, .slice pl a.list.length cl] #[.int .i64 b.kind, .bool b.b, .int .i64 b.n, .string (strB b.text), .slice pk' b.keys.length ck', .slice pl' b.list.length cl'] #[.int .i64 c.kind, .bool c.b, .int .i64 c.n, .string (strB c.text), .slice pk2 c.keys.length ck2, .slice pl2 c.list.length cl2] W) => h.check hE ha (by omega))
    have HCB := Lib.hid (fun (W : World) (h : Box3 w #[.int .i64 a.kind, .bool a.b, .int .i64 a.n, .string (strB a.text), .slice pk a.keys.length ck, .slice pl a.list.length cl] #[.int .i64 b.kind, .bool b.b, .int .i64 b.n, .string (strB b.text), .slice pk' b.keys.length ck', .slice pl' b.list.length cl'] #[.int .i64 c.kind, .bool c.b, .int .i64 c.n, .string (strB c.text), .slice pk2 c.keys.length ck2, .slice pl2 c.list.length cl2] W) => h.check hE hb (by omega))
    have HCC := Lib.hid (fun (W : World) (h : Box3 w #[.int .i64 a.kind, .bool a.b, .int .i64 a.n, .string (strB a.text), .slice pk a.keys.length ck, .slice pl a.list.length cl] #[.int .i64 b.kind, .bool b.b, .int .i64 b.n, .string (strB b.text), .slice pk' b.keys.length ck', .slice pl' b.list.length cl'] #[.int .i64 c.kind, .bool c.b, .int .i64 c.n, .string (strB c.text), .slice pk2 c.keys.length ck2, .slice pl2 c.list.length cl2] W) => h.check hE hc (by omega))
    have HK := Lib.hid hT
    by_cases ka : checkV Lib.validD a = 0
    · by_cases kb : checkV Lib.validD b = 0
      · by_cases kc : checkV Lib.validD c = 0
        · rw [ka] at HCA
          rw [kb] at HCB
          rw [kc] at HCC
          have oa : okV a = true := by unfold okV; rw [ka]; rfl
          have ob : okV b = true := by unfold okV; rw [kb]; rfl
          have oc : okV c = true := by unfold okV; rw [kc]; rfl
          have HO := Lib.hid (And.intro oa (And.intro ob (And.intro oc (show totV a + totV b + totV c ≤ 2000 by omega))))
          clear hE ha hb hc hT hts hs ka kb kc oa ob oc
          go_enter Tryz.func7, Tryz.ntmps7
          go_wp2_with (first
            | (go_at_call 15
               (
                 refine HSM.out.mono ?_
                 rintro e w1 ⟨rfl, hT1⟩
                 have px0 := cellOf (o := 0) hT1.one rfl; have px1 := cellOf (o := 1) hT1.one rfl; have px2 := cellOf (o := 2) hT1.one rfl; have px3 := cellOf (o := 3) hT1.one rfl; have px4 := cellOf (o := 4) hT1.one rfl; have px5 := cellOf (o := 5) hT1.one rfl
                 have py0 := cellOf (o := 0) hT1.two rfl; have py1 := cellOf (o := 1) hT1.two rfl; have py2 := cellOf (o := 2) hT1.two rfl; have py3 := cellOf (o := 3) hT1.two rfl; have py4 := cellOf (o := 4) hT1.two rfl; have py5 := cellOf (o := 5) hT1.two rfl
                 have pz0 := cellOf (o := 0) hT1.three rfl; have pz1 := cellOf (o := 1) hT1.three rfl; have pz2 := cellOf (o := 2) hT1.three rfl; have pz3 := cellOf (o := 3) hT1.three rfl; have pz4 := cellOf (o := 4) hT1.three rfl; have pz5 := cellOf (o := 5) hT1.three rfl
                 have HT := Lib.hid hT1
                 clear hT1))
            | (go_at_call 45
               (
                refine (HCA.out _ HT.out).mono ?_
                rintro e w2 ⟨rfl, hT1⟩
                have px0 := cellOf (o := 0) hT1.one rfl; have px1 := cellOf (o := 1) hT1.one rfl; have px2 := cellOf (o := 2) hT1.one rfl; have px3 := cellOf (o := 3) hT1.one rfl; have px4 := cellOf (o := 4) hT1.one rfl; have px5 := cellOf (o := 5) hT1.one rfl
                have py0 := cellOf (o := 0) hT1.two rfl; have py1 := cellOf (o := 1) hT1.two rfl; have py2 := cellOf (o := 2) hT1.two rfl; have py3 := cellOf (o := 3) hT1.two rfl; have py4 := cellOf (o := 4) hT1.two rfl; have py5 := cellOf (o := 5) hT1.two rfl
                have pz0 := cellOf (o := 0) hT1.three rfl; have pz1 := cellOf (o := 1) hT1.three rfl; have pz2 := cellOf (o := 2) hT1.three rfl; have pz3 := cellOf (o := 3) hT1.three rfl; have pz4 := cellOf (o := 4) hT1.three rfl; have pz5 := cellOf (o := 5) hT1.three rfl
                have HT := Lib.hid hT1
                clear hT1 HCA))
            | (go_at_call 45
               (
                refine (HCB.out _ HT.out).mono ?_
                rintro e w3 ⟨rfl, hT1⟩
                have px0 := cellOf (o := 0) hT1.one rfl; have px1 := cellOf (o := 1) hT1.one rfl; have px2 := cellOf (o := 2) hT1.one rfl; have px3 := cellOf (o := 3) hT1.one rfl; have px4 := cellOf (o := 4) hT1.one rfl; have px5 := cellOf (o := 5) hT1.one rfl
                have py0 := cellOf (o := 0) hT1.two rfl; have py1 := cellOf (o := 1) hT1.two rfl; have py2 := cellOf (o := 2) hT1.two rfl; have py3 := cellOf (o := 3) hT1.two rfl; have py4 := cellOf (o := 4) hT1.two rfl; have py5 := cellOf (o := 5) hT1.two rfl
                have pz0 := cellOf (o := 0) hT1.three rfl; have pz1 := cellOf (o := 1) hT1.three rfl; have pz2 := cellOf (o := 2) hT1.three rfl; have pz3 := cellOf (o := 3) hT1.three rfl; have pz4 := cellOf (o := 4) hT1.three rfl; have pz5 := cellOf (o := 5) hT1.three rfl
                have HT := Lib.hid hT1
                clear hT1 HCB))
            | (go_at_call 45
               (
                refine (HCC.out _ HT.out).mono ?_
                rintro e w4 ⟨rfl, hT1⟩
                have px0 := cellOf (o := 0) hT1.one rfl; have px1 := cellOf (o := 1) hT1.one rfl; have px2 := cellOf (o := 2) hT1.one rfl; have px3 := cellOf (o := 3) hT1.one rfl; have px4 := cellOf (o := 4) hT1.one rfl; have px5 := cellOf (o := 5) hT1.one rfl
                have py0 := cellOf (o := 0) hT1.two rfl; have py1 := cellOf (o := 1) hT1.two rfl; have py2 := cellOf (o := 2) hT1.two rfl; have py3 := cellOf (o := 3) hT1.two rfl; have py4 := cellOf (o := 4) hT1.two rfl; have py5 := cellOf (o := 5) hT1.two rfl
                have pz0 := cellOf (o := 0) hT1.three rfl; have pz1 := cellOf (o := 1) hT1.three rfl; have pz2 := cellOf (o := 2) hT1.three rfl; have pz3 := cellOf (o := 3) hT1.three rfl; have pz4 := cellOf (o := 4) hT1.three rfl; have pz5 := cellOf (o := 5) hT1.three rfl
                have HT := Lib.hid hT1
                clear hT1 HCC))
            | (go_at_call 33; refine (num_any _ _).mono ?_; rintro e w' ⟨rfl, rfl⟩)
            | (go_at_call 16
               (refine (HW.out _ HT.out).mono ?_
                rintro e w9 ⟨rfl, hT1⟩
                have HT := Lib.hid hT1
                clear hT1)))
          have hU : Box3 w #[.int .i64 a.kind, .bool a.b, .int .i64 a.n, .string (strB a.text), .slice pk a.keys.length ck, .slice pl a.list.length cl] #[.int .i64 b.kind, .bool b.b, .int .i64 b.n, .string (strB b.text), .slice pk' b.keys.length ck', .slice pl' b.list.length cl'] #[.int .i64 c.kind, .bool c.b, .int .i64 c.n, .string (strB c.text), .slice pk2 c.keys.length ck2, .slice pl2 c.list.length cl2] w4.drew := HT.out.keep (Below.refl _ _).drew
          refine plain_region_draws (fun W => Box3 w #[.int .i64 a.kind, .bool a.b, .int .i64 a.n, .string (strB a.text), .slice pk a.keys.length ck, .slice pl a.list.length cl] #[.int .i64 b.kind, .bool b.b, .int .i64 b.n, .string (strB b.text), .slice pk' b.keys.length ck', .slice pl' b.list.length cl'] #[.int .i64 c.kind, .bool c.b, .int .i64 c.n, .string (strB c.text), .slice pk2 c.keys.length ck2, .slice pl2 c.list.length cl2] W) (by kernel_rfl) hU (fun hU => ?_)
          generalize w4.drew = W0 at *
          obtain ⟨hE, ha, hb, hc⟩ := HR.out
          obtain ⟨oa, ob, oc, ht⟩ := HO.out
          have hcb := combo a b c
          have nba := (ord_cmpV a).anti b
          have naa := (ord_cmpV a).self
          have C1 := Lib.hid (fun (W : World) (n : Int) (h : Box3 w #[.int .i64 a.kind, .bool a.b, .int .i64 a.n, .string (strB a.text), .slice pk a.keys.length ck, .slice pl a.list.length cl] #[.int .i64 b.kind, .bool b.b, .int .i64 b.n, .string (strB b.text), .slice pk' b.keys.length ck', .slice pl' b.list.length cl'] #[.int .i64 c.kind, .bool c.b, .int .i64 c.n, .string (strB c.text), .slice pk2 c.keys.length ck2, .slice pl2 c.list.length cl2] W) (hn : cmpV a b = n) => h.cmp hE ha hb oa ob (by omega) hn)
          have C2 := Lib.hid (fun (W : World) (n : Int) (h : Box3 w #[.int .i64 a.kind, .bool a.b, .int .i64 a.n, .string (strB a.text), .slice pk a.keys.length ck, .slice pl a.list.length cl] #[.int .i64 b.kind, .bool b.b, .int .i64 b.n, .string (strB b.text), .slice pk' b.keys.length ck', .slice pl' b.list.length cl'] #[.int .i64 c.kind, .bool c.b, .int .i64 c.n, .string (strB c.text), .slice pk2 c.keys.length ck2, .slice pl2 c.list.length cl2] W) (hn : cmpV b c = n) => h.cmp hE hb hc ob oc (by omega) hn)
          have C3 := Lib.hid (fun (W : World) (n : Int) (h : Box3 w #[.int .i64 a.kind, .bool a.b, .int .i64 a.n, .string (strB a.text), .slice pk a.keys.length ck, .slice pl a.list.length cl] #[.int .i64 b.kind, .bool b.b, .int .i64 b.n, .string (strB b.text), .slice pk' b.keys.length ck', .slice pl' b.list.length cl'] #[.int .i64 c.kind, .bool c.b, .int .i64 c.n, .string (strB c.text), .slice pk2 c.keys.length ck2, .slice pl2 c.list.length cl2] W) (hn : cmpV a c = n) => h.cmp hE ha hc oa oc (by omega) hn)
          have C4 := Lib.hid (fun (W : World) (n : Int) (h : Box3 w #[.int .i64 a.kind, .bool a.b, .int .i64 a.n, .string (strB a.text), .slice pk a.keys.length ck, .slice pl a.list.length cl] #[.int .i64 b.kind, .bool b.b, .int .i64 b.n, .string (strB b.text), .slice pk' b.keys.length ck', .slice pl' b.list.length cl'] #[.int .i64 c.kind, .bool c.b, .int .i64 c.n, .string (strB c.text), .slice pk2 c.keys.length ck2, .slice pl2 c.list.length cl2] W) (hn : cmpV b a = n) => h.cmp hE hb ha ob oa (by omega) hn)
          have C5 := Lib.hid (fun (W : World) (h : Box3 w #[.int .i64 a.kind, .bool a.b, .int .i64 a.n, .string (strB a.text), .slice pk a.keys.length ck, .slice pl a.list.length cl] #[.int .i64 b.kind, .bool b.b, .int .i64 b.n, .string (strB b.text), .slice pk' b.keys.length ck', .slice pl' b.list.length cl'] #[.int .i64 c.kind, .bool c.b, .int .i64 c.n, .string (strB c.text), .slice pk2 c.keys.length ck2, .slice pl2 c.list.length cl2] W) => h.cmp hE ha ha oa oa (by omega) naa)
          have C6 := Lib.hid (fun (W : World) (n : Bool) (h : Box3 w #[.int .i64 a.kind, .bool a.b, .int .i64 a.n, .string (strB a.text), .slice pk a.keys.length ck, .slice pl a.list.length cl] #[.int .i64 b.kind, .bool b.b, .int .i64 b.n, .string (strB b.text), .slice pk' b.keys.length ck', .slice pl' b.list.length cl'] #[.int .i64 c.kind, .bool c.b, .int .i64 c.n, .string (strB c.text), .slice pk2 c.keys.length ck2, .slice pl2 c.list.length cl2] W) (hn : decide (cmpV a b = 0) = n) => h.same hE ha hb oa ob (by omega) hn)
          clear hE ha hb hc oa ob oc ht naa HO HR HSM
          generalize cmpV a b = X at *
          generalize cmpV b c = Y at *
          generalize cmpV a c = Z at *
          rw [nba] at C4
          clear nba
          rcases hcb with ⟨rfl, rfl, rfl⟩ | ⟨rfl, rfl, rfl⟩ | ⟨rfl, rfl, rfl⟩ | ⟨rfl, rfl, rfl⟩ | ⟨rfl, rfl, rfl⟩ | ⟨rfl, rfl, rfl⟩ | ⟨rfl, rfl, rfl⟩ | ⟨rfl, rfl, rfl⟩ | ⟨rfl, rfl, rfl⟩ | ⟨rfl, rfl, rfl⟩ | ⟨rfl, rfl, rfl⟩ | ⟨rfl, rfl, rfl⟩ | ⟨rfl, rfl, rfl⟩
          · refine take 0 35 (v := .agg #[.int .i64 a.kind, .bool a.b, .int .i64 a.n, .string (strB a.text), .slice pk a.keys.length ck, .slice pl a.list.length cl]) rfl rfl (by kernel_rfl) (by kernel_rfl) (by kernel_rfl) rfl (fun W hW => exec_load rfl rfl (get_val hW.one)) (by assumption) ?_
            simp only [Act.put, List.setIfInBounds_toArray, List.set_cons_zero, List.set_cons_succ]
            refine take 1 36 (v := .agg #[.int .i64 b.kind, .bool b.b, .int .i64 b.n, .string (strB b.text), .slice pk' b.keys.length ck', .slice pl' b.list.length cl']) rfl rfl (by kernel_rfl) (by kernel_rfl) (by kernel_rfl) rfl (fun W hW => exec_load rfl rfl (get_val hW.two)) (by assumption) ?_
            simp only [Act.put, List.setIfInBounds_toArray, List.set_cons_zero, List.set_cons_succ]
            refine take 3 38 (v := .agg #[.int .i64 b.kind, .bool b.b, .int .i64 b.n, .string (strB b.text), .slice pk' b.keys.length ck', .slice pl' b.list.length cl']) rfl rfl (by kernel_rfl) (by kernel_rfl) (by kernel_rfl) rfl (fun W hW => exec_load rfl rfl (get_val hW.two)) (by assumption) ?_
            simp only [Act.put, List.setIfInBounds_toArray, List.set_cons_zero, List.set_cons_succ]
            refine take 4 39 (v := .agg #[.int .i64 c.kind, .bool c.b, .int .i64 c.n, .string (strB c.text), .slice pk2 c.keys.length ck2, .slice pl2 c.list.length cl2]) rfl rfl (by kernel_rfl) (by kernel_rfl) (by kernel_rfl) rfl (fun W hW => exec_load rfl rfl (get_val hW.three)) (by assumption) ?_
            simp only [Act.put, List.setIfInBounds_toArray, List.set_cons_zero, List.set_cons_succ]
            refine take 6 41 (v := .agg #[.int .i64 a.kind, .bool a.b, .int .i64 a.n, .string (strB a.text), .slice pk a.keys.length ck, .slice pl a.list.length cl]) rfl rfl (by kernel_rfl) (by kernel_rfl) (by kernel_rfl) rfl (fun W hW => exec_load rfl rfl (get_val hW.one)) (by assumption) ?_
            simp only [Act.put, List.setIfInBounds_toArray, List.set_cons_zero, List.set_cons_succ]
            refine take 7 42 (v := .agg #[.int .i64 c.kind, .bool c.b, .int .i64 c.n, .string (strB c.text), .slice pk2 c.keys.length ck2, .slice pl2 c.list.length cl2]) rfl rfl (by kernel_rfl) (by kernel_rfl) (by kernel_rfl) rfl (fun W hW => exec_load rfl rfl (get_val hW.three)) (by assumption) ?_
            simp only [Act.put, List.setIfInBounds_toArray, List.set_cons_zero, List.set_cons_succ]
            refine onlyCall 2 37 rfl rfl (by kernel_rfl) rfl (exec_call [.agg #[.int .i64 a.kind, .bool a.b, .int .i64 a.n, .string (strB a.text), .slice pk a.keys.length ck, .slice pl a.list.length cl], .agg #[.int .i64 b.kind, .bool b.b, .int .i64 b.n, .string (strB b.text), .slice pk' b.keys.length ck', .slice pl' b.list.length cl']] rfl rfl Tryz.func20 (by kernel_rfl) (by kernel_rfl)) ?_
            refine (C1.out _ 0 hU rfl).mono ?_
            rintro e w' ⟨rfl, hU⟩
            refine ⟨_, rfl, .inr (by assumption), ?_⟩
            simp only [Act.put, List.setIfInBounds_toArray, List.set_cons_zero, List.set_cons_succ]
            refine onlyCall 5 40 rfl rfl (by kernel_rfl) rfl (exec_call [.agg #[.int .i64 b.kind, .bool b.b, .int .i64 b.n, .string (strB b.text), .slice pk' b.keys.length ck', .slice pl' b.list.length cl'], .agg #[.int .i64 c.kind, .bool c.b, .int .i64 c.n, .string (strB c.text), .slice pk2 c.keys.length ck2, .slice pl2 c.list.length cl2]] rfl rfl Tryz.func20 (by kernel_rfl) (by kernel_rfl)) ?_
            refine (C2.out _ 0 hU rfl).mono ?_
            rintro e w' ⟨rfl, hU⟩
            refine ⟨_, rfl, .inr (by assumption), ?_⟩
            simp only [Act.put, List.setIfInBounds_toArray, List.set_cons_zero, List.set_cons_succ]
            refine onlyCall 8 43 rfl rfl (by kernel_rfl) rfl (exec_call [.agg #[.int .i64 a.kind, .bool a.b, .int .i64 a.n, .string (strB a.text), .slice pk a.keys.length ck, .slice pl a.list.length cl], .agg #[.int .i64 c.kind, .bool c.b, .int .i64 c.n, .string (strB c.text), .slice pk2 c.keys.length ck2, .slice pl2 c.list.length cl2]] rfl rfl Tryz.func20 (by kernel_rfl) (by kernel_rfl)) ?_
            refine (C3.out _ 0 hU rfl).mono ?_
            rintro e w' ⟨rfl, hU⟩
            refine ⟨_, rfl, .inr (by assumption), ?_⟩
            simp only [Act.put, List.setIfInBounds_toArray, List.set_cons_zero, List.set_cons_succ]
            refine take 9 7 (v := .int .i64 0) rfl rfl (by kernel_rfl) (by kernel_rfl) (by kernel_rfl) rfl (fun W hW => exec_assign rfl rfl) (by assumption) ?_
            simp only [Act.put, List.setIfInBounds_toArray, List.set_cons_zero, List.set_cons_succ]
            refine take 10 8 (v := .int .i64 0) rfl rfl (by kernel_rfl) (by kernel_rfl) (by kernel_rfl) rfl (fun W hW => exec_assign rfl rfl) (by assumption) ?_
            simp only [Act.put, List.setIfInBounds_toArray, List.set_cons_zero, List.set_cons_succ]
            refine take 11 9 (v := .int .i64 0) rfl rfl (by kernel_rfl) (by kernel_rfl) (by kernel_rfl) rfl (fun W hW => exec_assign rfl rfl) (by assumption) ?_
            simp only [Act.put, List.setIfInBounds_toArray, List.set_cons_zero, List.set_cons_succ]
            refine done (by kernel_rfl) ?_ _
            have HT := Lib.hid hU
            have px0 := cellOf (o := 0) hU.one rfl; have px1 := cellOf (o := 1) hU.one rfl; have px2 := cellOf (o := 2) hU.one rfl; have px3 := cellOf (o := 3) hU.one rfl; have px4 := cellOf (o := 4) hU.one rfl; have px5 := cellOf (o := 5) hU.one rfl
            have py0 := cellOf (o := 0) hU.two rfl; have py1 := cellOf (o := 1) hU.two rfl; have py2 := cellOf (o := 2) hU.two rfl; have py3 := cellOf (o := 3) hU.two rfl; have py4 := cellOf (o := 4) hU.two rfl; have py5 := cellOf (o := 5) hU.two rfl
            have pz0 := cellOf (o := 0) hU.three rfl; have pz1 := cellOf (o := 1) hU.three rfl; have pz2 := cellOf (o := 2) hU.three rfl; have pz3 := cellOf (o := 3) hU.three rfl; have pz4 := cellOf (o := 4) hU.three rfl; have pz5 := cellOf (o := 5) hU.three rfl
            clear hU
            go_wp2_with (first
              | (go_at_call 20
                 (refine (C4.out _ 0 HT.out rfl).mono ?_
                  rintro e w5 ⟨rfl, hT1⟩
                  have px0 := cellOf (o := 0) hT1.one rfl; have px1 := cellOf (o := 1) hT1.one rfl; have px2 := cellOf (o := 2) hT1.one rfl; have px3 := cellOf (o := 3) hT1.one rfl; have px4 := cellOf (o := 4) hT1.one rfl; have px5 := cellOf (o := 5) hT1.one rfl
                  have py0 := cellOf (o := 0) hT1.two rfl; have py1 := cellOf (o := 1) hT1.two rfl; have py2 := cellOf (o := 2) hT1.two rfl; have py3 := cellOf (o := 3) hT1.two rfl; have py4 := cellOf (o := 4) hT1.two rfl; have py5 := cellOf (o := 5) hT1.two rfl
                  have pz0 := cellOf (o := 0) hT1.three rfl; have pz1 := cellOf (o := 1) hT1.three rfl; have pz2 := cellOf (o := 2) hT1.three rfl; have pz3 := cellOf (o := 3) hT1.three rfl; have pz4 := cellOf (o := 4) hT1.three rfl; have pz5 := cellOf (o := 5) hT1.three rfl
                  have HT := Lib.hid hT1
                  clear hT1 C4))
              | (go_at_call 20
                 (refine (C5.out _ HT.out).mono ?_
                  rintro e w6 ⟨rfl, hT1⟩
                  have px0 := cellOf (o := 0) hT1.one rfl; have px1 := cellOf (o := 1) hT1.one rfl; have px2 := cellOf (o := 2) hT1.one rfl; have px3 := cellOf (o := 3) hT1.one rfl; have px4 := cellOf (o := 4) hT1.one rfl; have px5 := cellOf (o := 5) hT1.one rfl
                  have py0 := cellOf (o := 0) hT1.two rfl; have py1 := cellOf (o := 1) hT1.two rfl; have py2 := cellOf (o := 2) hT1.two rfl; have py3 := cellOf (o := 3) hT1.two rfl; have py4 := cellOf (o := 4) hT1.two rfl; have py5 := cellOf (o := 5) hT1.two rfl
                  have HT := Lib.hid hT1
                  clear hT1 C5))
              | (go_at_call 21
                 (refine (C6.out _ true HT.out rfl).mono ?_
                  rintro e w7 ⟨rfl, hT1⟩
                  have HT := Lib.hid hT1
                  clear hT1))
              | (go_at_call 16
                 (refine (HW.out _ HT.out).mono ?_
                  rintro e w9 ⟨rfl, hT1⟩
                  have HT := Lib.hid hT1
                  clear hT1)))
            go_ret
            exact ⟨rfl, HT.out.below⟩
          · refine take 0 35 (v := .agg #[.int .i64 a.kind, .bool a.b, .int .i64 a.n, .string (strB a.text), .slice pk a.keys.length ck, .slice pl a.list.length cl]) rfl rfl (by kernel_rfl) (by kernel_rfl) (by kernel_rfl) rfl (fun W hW => exec_load rfl rfl (get_val hW.one)) (by assumption) ?_
            simp only [Act.put, List.setIfInBounds_toArray, List.set_cons_zero, List.set_cons_succ]
            refine take 1 36 (v := .agg #[.int .i64 b.kind, .bool b.b, .int .i64 b.n, .string (strB b.text), .slice pk' b.keys.length ck', .slice pl' b.list.length cl']) rfl rfl (by kernel_rfl) (by kernel_rfl) (by kernel_rfl) rfl (fun W hW => exec_load rfl rfl (get_val hW.two)) (by assumption) ?_
            simp only [Act.put, List.setIfInBounds_toArray, List.set_cons_zero, List.set_cons_succ]
            refine take 3 38 (v := .agg #[.int .i64 b.kind, .bool b.b, .int .i64 b.n, .string (strB b.text), .slice pk' b.keys.length ck', .slice pl' b.list.length cl']) rfl rfl (by kernel_rfl) (by kernel_rfl) (by kernel_rfl) rfl (fun W hW => exec_load rfl rfl (get_val hW.two)) (by assumption) ?_
            simp only [Act.put, List.setIfInBounds_toArray, List.set_cons_zero, List.set_cons_succ]
            refine take 4 39 (v := .agg #[.int .i64 c.kind, .bool c.b, .int .i64 c.n, .string (strB c.text), .slice pk2 c.keys.length ck2, .slice pl2 c.list.length cl2]) rfl rfl (by kernel_rfl) (by kernel_rfl) (by kernel_rfl) rfl (fun W hW => exec_load rfl rfl (get_val hW.three)) (by assumption) ?_
            simp only [Act.put, List.setIfInBounds_toArray, List.set_cons_zero, List.set_cons_succ]
            refine take 6 41 (v := .agg #[.int .i64 a.kind, .bool a.b, .int .i64 a.n, .string (strB a.text), .slice pk a.keys.length ck, .slice pl a.list.length cl]) rfl rfl (by kernel_rfl) (by kernel_rfl) (by kernel_rfl) rfl (fun W hW => exec_load rfl rfl (get_val hW.one)) (by assumption) ?_
            simp only [Act.put, List.setIfInBounds_toArray, List.set_cons_zero, List.set_cons_succ]
            refine take 7 42 (v := .agg #[.int .i64 c.kind, .bool c.b, .int .i64 c.n, .string (strB c.text), .slice pk2 c.keys.length ck2, .slice pl2 c.list.length cl2]) rfl rfl (by kernel_rfl) (by kernel_rfl) (by kernel_rfl) rfl (fun W hW => exec_load rfl rfl (get_val hW.three)) (by assumption) ?_
            simp only [Act.put, List.setIfInBounds_toArray, List.set_cons_zero, List.set_cons_succ]
            refine onlyCall 2 37 rfl rfl (by kernel_rfl) rfl (exec_call [.agg #[.int .i64 a.kind, .bool a.b, .int .i64 a.n, .string (strB a.text), .slice pk a.keys.length ck, .slice pl a.list.length cl], .agg #[.int .i64 b.kind, .bool b.b, .int .i64 b.n, .string (strB b.text), .slice pk' b.keys.length ck', .slice pl' b.list.length cl']] rfl rfl Tryz.func20 (by kernel_rfl) (by kernel_rfl)) ?_
            refine (C1.out _ 0 hU rfl).mono ?_
            rintro e w' ⟨rfl, hU⟩
            refine ⟨_, rfl, .inr (by assumption), ?_⟩
            simp only [Act.put, List.setIfInBounds_toArray, List.set_cons_zero, List.set_cons_succ]
            refine onlyCall 5 40 rfl rfl (by kernel_rfl) rfl (exec_call [.agg #[.int .i64 b.kind, .bool b.b, .int .i64 b.n, .string (strB b.text), .slice pk' b.keys.length ck', .slice pl' b.list.length cl'], .agg #[.int .i64 c.kind, .bool c.b, .int .i64 c.n, .string (strB c.text), .slice pk2 c.keys.length ck2, .slice pl2 c.list.length cl2]] rfl rfl Tryz.func20 (by kernel_rfl) (by kernel_rfl)) ?_
            refine (C2.out _ 1 hU rfl).mono ?_
            rintro e w' ⟨rfl, hU⟩
            refine ⟨_, rfl, .inr (by assumption), ?_⟩
            simp only [Act.put, List.setIfInBounds_toArray, List.set_cons_zero, List.set_cons_succ]
            refine onlyCall 8 43 rfl rfl (by kernel_rfl) rfl (exec_call [.agg #[.int .i64 a.kind, .bool a.b, .int .i64 a.n, .string (strB a.text), .slice pk a.keys.length ck, .slice pl a.list.length cl], .agg #[.int .i64 c.kind, .bool c.b, .int .i64 c.n, .string (strB c.text), .slice pk2 c.keys.length ck2, .slice pl2 c.list.length cl2]] rfl rfl Tryz.func20 (by kernel_rfl) (by kernel_rfl)) ?_
            refine (C3.out _ 1 hU rfl).mono ?_
            rintro e w' ⟨rfl, hU⟩
            refine ⟨_, rfl, .inr (by assumption), ?_⟩
            simp only [Act.put, List.setIfInBounds_toArray, List.set_cons_zero, List.set_cons_succ]
            refine take 9 7 (v := .int .i64 0) rfl rfl (by kernel_rfl) (by kernel_rfl) (by kernel_rfl) rfl (fun W hW => exec_assign rfl rfl) (by assumption) ?_
            simp only [Act.put, List.setIfInBounds_toArray, List.set_cons_zero, List.set_cons_succ]
            refine take 10 8 (v := .int .i64 1) rfl rfl (by kernel_rfl) (by kernel_rfl) (by kernel_rfl) rfl (fun W hW => exec_assign rfl rfl) (by assumption) ?_
            simp only [Act.put, List.setIfInBounds_toArray, List.set_cons_zero, List.set_cons_succ]
            refine take 11 9 (v := .int .i64 1) rfl rfl (by kernel_rfl) (by kernel_rfl) (by kernel_rfl) rfl (fun W hW => exec_assign rfl rfl) (by assumption) ?_
            simp only [Act.put, List.setIfInBounds_toArray, List.set_cons_zero, List.set_cons_succ]
            refine done (by kernel_rfl) ?_ _
            have HT := Lib.hid hU
            have px0 := cellOf (o := 0) hU.one rfl; have px1 := cellOf (o := 1) hU.one rfl; have px2 := cellOf (o := 2) hU.one rfl; have px3 := cellOf (o := 3) hU.one rfl; have px4 := cellOf (o := 4) hU.one rfl; have px5 := cellOf (o := 5) hU.one rfl
            have py0 := cellOf (o := 0) hU.two rfl; have py1 := cellOf (o := 1) hU.two rfl; have py2 := cellOf (o := 2) hU.two rfl; have py3 := cellOf (o := 3) hU.two rfl; have py4 := cellOf (o := 4) hU.two rfl; have py5 := cellOf (o := 5) hU.two rfl
            have pz0 := cellOf (o := 0) hU.three rfl; have pz1 := cellOf (o := 1) hU.three rfl; have pz2 := cellOf (o := 2) hU.three rfl; have pz3 := cellOf (o := 3) hU.three rfl; have pz4 := cellOf (o := 4) hU.three rfl; have pz5 := cellOf (o := 5) hU.three rfl
            clear hU
            go_wp2_with (first
              | (go_at_call 20
                 (refine (C4.out _ 0 HT.out rfl).mono ?_
                  rintro e w5 ⟨rfl, hT1⟩
                  have px0 := cellOf (o := 0) hT1.one rfl; have px1 := cellOf (o := 1) hT1.one rfl; have px2 := cellOf (o := 2) hT1.one rfl; have px3 := cellOf (o := 3) hT1.one rfl; have px4 := cellOf (o := 4) hT1.one rfl; have px5 := cellOf (o := 5) hT1.one rfl
                  have py0 := cellOf (o := 0) hT1.two rfl; have py1 := cellOf (o := 1) hT1.two rfl; have py2 := cellOf (o := 2) hT1.two rfl; have py3 := cellOf (o := 3) hT1.two rfl; have py4 := cellOf (o := 4) hT1.two rfl; have py5 := cellOf (o := 5) hT1.two rfl
                  have pz0 := cellOf (o := 0) hT1.three rfl; have pz1 := cellOf (o := 1) hT1.three rfl; have pz2 := cellOf (o := 2) hT1.three rfl; have pz3 := cellOf (o := 3) hT1.three rfl; have pz4 := cellOf (o := 4) hT1.three rfl; have pz5 := cellOf (o := 5) hT1.three rfl
                  have HT := Lib.hid hT1
                  clear hT1 C4))
              | (go_at_call 20
                 (refine (C5.out _ HT.out).mono ?_
                  rintro e w6 ⟨rfl, hT1⟩
                  have px0 := cellOf (o := 0) hT1.one rfl; have px1 := cellOf (o := 1) hT1.one rfl; have px2 := cellOf (o := 2) hT1.one rfl; have px3 := cellOf (o := 3) hT1.one rfl; have px4 := cellOf (o := 4) hT1.one rfl; have px5 := cellOf (o := 5) hT1.one rfl
                  have py0 := cellOf (o := 0) hT1.two rfl; have py1 := cellOf (o := 1) hT1.two rfl; have py2 := cellOf (o := 2) hT1.two rfl; have py3 := cellOf (o := 3) hT1.two rfl; have py4 := cellOf (o := 4) hT1.two rfl; have py5 := cellOf (o := 5) hT1.two rfl
                  have HT := Lib.hid hT1
                  clear hT1 C5))
              | (go_at_call 21
                 (refine (C6.out _ true HT.out rfl).mono ?_
                  rintro e w7 ⟨rfl, hT1⟩
                  have HT := Lib.hid hT1
                  clear hT1))
              | (go_at_call 16
                 (refine (HW.out _ HT.out).mono ?_
                  rintro e w9 ⟨rfl, hT1⟩
                  have HT := Lib.hid hT1
                  clear hT1)))
            go_ret
            exact ⟨rfl, HT.out.below⟩
          · refine take 0 35 (v := .agg #[.int .i64 a.kind, .bool a.b, .int .i64 a.n, .string (strB a.text), .slice pk a.keys.length ck, .slice pl a.list.length cl]) rfl rfl (by kernel_rfl) (by kernel_rfl) (by kernel_rfl) rfl (fun W hW => exec_load rfl rfl (get_val hW.one)) (by assumption) ?_
            simp only [Act.put, List.setIfInBounds_toArray, List.set_cons_zero, List.set_cons_succ]
            refine take 1 36 (v := .agg #[.int .i64 b.kind, .bool b.b, .int .i64 b.n, .string (strB b.text), .slice pk' b.keys.length ck', .slice pl' b.list.length cl']) rfl rfl (by kernel_rfl) (by kernel_rfl) (by kernel_rfl) rfl (fun W hW => exec_load rfl rfl (get_val hW.two)) (by assumption) ?_
            simp only [Act.put, List.setIfInBounds_toArray, List.set_cons_zero, List.set_cons_succ]
            refine take 3 38 (v := .agg #[.int .i64 b.kind, .bool b.b, .int .i64 b.n, .string (strB b.text), .slice pk' b.keys.length ck', .slice pl' b.list.length cl']) rfl rfl (by kernel_rfl) (by kernel_rfl) (by kernel_rfl) rfl (fun W hW => exec_load rfl rfl (get_val hW.two)) (by assumption) ?_
            simp only [Act.put, List.setIfInBounds_toArray, List.set_cons_zero, List.set_cons_succ]
            refine take 4 39 (v := .agg #[.int .i64 c.kind, .bool c.b, .int .i64 c.n, .string (strB c.text), .slice pk2 c.keys.length ck2, .slice pl2 c.list.length cl2]) rfl rfl (by kernel_rfl) (by kernel_rfl) (by kernel_rfl) rfl (fun W hW => exec_load rfl rfl (get_val hW.three)) (by assumption) ?_
            simp only [Act.put, List.setIfInBounds_toArray, List.set_cons_zero, List.set_cons_succ]
            refine take 6 41 (v := .agg #[.int .i64 a.kind, .bool a.b, .int .i64 a.n, .string (strB a.text), .slice pk a.keys.length ck, .slice pl a.list.length cl]) rfl rfl (by kernel_rfl) (by kernel_rfl) (by kernel_rfl) rfl (fun W hW => exec_load rfl rfl (get_val hW.one)) (by assumption) ?_
            simp only [Act.put, List.setIfInBounds_toArray, List.set_cons_zero, List.set_cons_succ]
            refine take 7 42 (v := .agg #[.int .i64 c.kind, .bool c.b, .int .i64 c.n, .string (strB c.text), .slice pk2 c.keys.length ck2, .slice pl2 c.list.length cl2]) rfl rfl (by kernel_rfl) (by kernel_rfl) (by kernel_rfl) rfl (fun W hW => exec_load rfl rfl (get_val hW.three)) (by assumption) ?_
            simp only [Act.put, List.setIfInBounds_toArray, List.set_cons_zero, List.set_cons_succ]
            refine onlyCall 2 37 rfl rfl (by kernel_rfl) rfl (exec_call [.agg #[.int .i64 a.kind, .bool a.b, .int .i64 a.n, .string (strB a.text), .slice pk a.keys.length ck, .slice pl a.list.length cl], .agg #[.int .i64 b.kind, .bool b.b, .int .i64 b.n, .string (strB b.text), .slice pk' b.keys.length ck', .slice pl' b.list.length cl']] rfl rfl Tryz.func20 (by kernel_rfl) (by kernel_rfl)) ?_
            refine (C1.out _ 0 hU rfl).mono ?_
            rintro e w' ⟨rfl, hU⟩
            refine ⟨_, rfl, .inr (by assumption), ?_⟩
            simp only [Act.put, List.setIfInBounds_toArray, List.set_cons_zero, List.set_cons_succ]
            refine onlyCall 5 40 rfl rfl (by kernel_rfl) rfl (exec_call [.agg #[.int .i64 b.kind, .bool b.b, .int .i64 b.n, .string (strB b.text), .slice pk' b.keys.length ck', .slice pl' b.list.length cl'], .agg #[.int .i64 c.kind, .bool c.b, .int .i64 c.n, .string (strB c.text), .slice pk2 c.keys.length ck2, .slice pl2 c.list.length cl2]] rfl rfl Tryz.func20 (by kernel_rfl) (by kernel_rfl)) ?_
            refine (C2.out _ (-1) hU rfl).mono ?_
            rintro e w' ⟨rfl, hU⟩
            refine ⟨_, rfl, .inr (by assumption), ?_⟩
            simp only [Act.put, List.setIfInBounds_toArray, List.set_cons_zero, List.set_cons_succ]
            refine onlyCall 8 43 rfl rfl (by kernel_rfl) rfl (exec_call [.agg #[.int .i64 a.kind, .bool a.b, .int .i64 a.n, .string (strB a.text), .slice pk a.keys.length ck, .slice pl a.list.length cl], .agg #[.int .i64 c.kind, .bool c.b, .int .i64 c.n, .string (strB c.text), .slice pk2 c.keys.length ck2, .slice pl2 c.list.length cl2]] rfl rfl Tryz.func20 (by kernel_rfl) (by kernel_rfl)) ?_
            refine (C3.out _ (-1) hU rfl).mono ?_
            rintro e w' ⟨rfl, hU⟩
            refine ⟨_, rfl, .inr (by assumption), ?_⟩
            simp only [Act.put, List.setIfInBounds_toArray, List.set_cons_zero, List.set_cons_succ]
            refine take 9 7 (v := .int .i64 0) rfl rfl (by kernel_rfl) (by kernel_rfl) (by kernel_rfl) rfl (fun W hW => exec_assign rfl rfl) (by assumption) ?_
            simp only [Act.put, List.setIfInBounds_toArray, List.set_cons_zero, List.set_cons_succ]
            refine take 10 8 (v := .int .i64 (-1)) rfl rfl (by kernel_rfl) (by kernel_rfl) (by kernel_rfl) rfl (fun W hW => exec_assign rfl rfl) (by assumption) ?_
            simp only [Act.put, List.setIfInBounds_toArray, List.set_cons_zero, List.set_cons_succ]
            refine take 11 9 (v := .int .i64 (-1)) rfl rfl (by kernel_rfl) (by kernel_rfl) (by kernel_rfl) rfl (fun W hW => exec_assign rfl rfl) (by assumption) ?_
            simp only [Act.put, List.setIfInBounds_toArray, List.set_cons_zero, List.set_cons_succ]
            refine done (by kernel_rfl) ?_ _
            have HT := Lib.hid hU
            have px0 := cellOf (o := 0) hU.one rfl; have px1 := cellOf (o := 1) hU.one rfl; have px2 := cellOf (o := 2) hU.one rfl; have px3 := cellOf (o := 3) hU.one rfl; have px4 := cellOf (o := 4) hU.one rfl; have px5 := cellOf (o := 5) hU.one rfl
            have py0 := cellOf (o := 0) hU.two rfl; have py1 := cellOf (o := 1) hU.two rfl; have py2 := cellOf (o := 2) hU.two rfl; have py3 := cellOf (o := 3) hU.two rfl; have py4 := cellOf (o := 4) hU.two rfl; have py5 := cellOf (o := 5) hU.two rfl
            have pz0 := cellOf (o := 0) hU.three rfl; have pz1 := cellOf (o := 1) hU.three rfl; have pz2 := cellOf (o := 2) hU.three rfl; have pz3 := cellOf (o := 3) hU.three rfl; have pz4 := cellOf (o := 4) hU.three rfl; have pz5 := cellOf (o := 5) hU.three rfl
            clear hU
            go_wp2_with (first
              | (go_at_call 20
                 (refine (C4.out _ 0 HT.out rfl).mono ?_
                  rintro e w5 ⟨rfl, hT1⟩
                  have px0 := cellOf (o := 0) hT1.one rfl; have px1 := cellOf (o := 1) hT1.one rfl; have px2 := cellOf (o := 2) hT1.one rfl; have px3 := cellOf (o := 3) hT1.one rfl; have px4 := cellOf (o := 4) hT1.one rfl; have px5 := cellOf (o := 5) hT1.one rfl
                  have py0 := cellOf (o := 0) hT1.two rfl; have py1 := cellOf (o := 1) hT1.two rfl; have py2 := cellOf (o := 2) hT1.two rfl; have py3 := cellOf (o := 3) hT1.two rfl; have py4 := cellOf (o := 4) hT1.two rfl; have py5 := cellOf (o := 5) hT1.two rfl
                  have pz0 := cellOf (o := 0) hT1.three rfl; have pz1 := cellOf (o := 1) hT1.three rfl; have pz2 := cellOf (o := 2) hT1.three rfl; have pz3 := cellOf (o := 3) hT1.three rfl; have pz4 := cellOf (o := 4) hT1.three rfl; have pz5 := cellOf (o := 5) hT1.three rfl
                  have HT := Lib.hid hT1
                  clear hT1 C4))
              | (go_at_call 20
                 (refine (C5.out _ HT.out).mono ?_
                  rintro e w6 ⟨rfl, hT1⟩
                  have px0 := cellOf (o := 0) hT1.one rfl; have px1 := cellOf (o := 1) hT1.one rfl; have px2 := cellOf (o := 2) hT1.one rfl; have px3 := cellOf (o := 3) hT1.one rfl; have px4 := cellOf (o := 4) hT1.one rfl; have px5 := cellOf (o := 5) hT1.one rfl
                  have py0 := cellOf (o := 0) hT1.two rfl; have py1 := cellOf (o := 1) hT1.two rfl; have py2 := cellOf (o := 2) hT1.two rfl; have py3 := cellOf (o := 3) hT1.two rfl; have py4 := cellOf (o := 4) hT1.two rfl; have py5 := cellOf (o := 5) hT1.two rfl
                  have HT := Lib.hid hT1
                  clear hT1 C5))
              | (go_at_call 21
                 (refine (C6.out _ true HT.out rfl).mono ?_
                  rintro e w7 ⟨rfl, hT1⟩
                  have HT := Lib.hid hT1
                  clear hT1))
              | (go_at_call 16
                 (refine (HW.out _ HT.out).mono ?_
                  rintro e w9 ⟨rfl, hT1⟩
                  have HT := Lib.hid hT1
                  clear hT1)))
            go_ret
            exact ⟨rfl, HT.out.below⟩
          · refine take 0 35 (v := .agg #[.int .i64 a.kind, .bool a.b, .int .i64 a.n, .string (strB a.text), .slice pk a.keys.length ck, .slice pl a.list.length cl]) rfl rfl (by kernel_rfl) (by kernel_rfl) (by kernel_rfl) rfl (fun W hW => exec_load rfl rfl (get_val hW.one)) (by assumption) ?_
            simp only [Act.put, List.setIfInBounds_toArray, List.set_cons_zero, List.set_cons_succ]
            refine take 1 36 (v := .agg #[.int .i64 b.kind, .bool b.b, .int .i64 b.n, .string (strB b.text), .slice pk' b.keys.length ck', .slice pl' b.list.length cl']) rfl rfl (by kernel_rfl) (by kernel_rfl) (by kernel_rfl) rfl (fun W hW => exec_load rfl rfl (get_val hW.two)) (by assumption) ?_
            simp only [Act.put, List.setIfInBounds_toArray, List.set_cons_zero, List.set_cons_succ]
            refine take 3 38 (v := .agg #[.int .i64 b.kind, .bool b.b, .int .i64 b.n, .string (strB b.text), .slice pk' b.keys.length ck', .slice pl' b.list.length cl']) rfl rfl (by kernel_rfl) (by kernel_rfl) (by kernel_rfl) rfl (fun W hW => exec_load rfl rfl (get_val hW.two)) (by assumption) ?_
            simp only [Act.put, List.setIfInBounds_toArray, List.set_cons_zero, List.set_cons_succ]
            refine take 4 39 (v := .agg #[.int .i64 c.kind, .bool c.b, .int .i64 c.n, .string (strB c.text), .slice pk2 c.keys.length ck2, .slice pl2 c.list.length cl2]) rfl rfl (by kernel_rfl) (by kernel_rfl) (by kernel_rfl) rfl (fun W hW => exec_load rfl rfl (get_val hW.three)) (by assumption) ?_
            simp only [Act.put, List.setIfInBounds_toArray, List.set_cons_zero, List.set_cons_succ]
            refine take 6 41 (v := .agg #[.int .i64 a.kind, .bool a.b, .int .i64 a.n, .string (strB a.text), .slice pk a.keys.length ck, .slice pl a.list.length cl]) rfl rfl (by kernel_rfl) (by kernel_rfl) (by kernel_rfl) rfl (fun W hW => exec_load rfl rfl (get_val hW.one)) (by assumption) ?_
            simp only [Act.put, List.setIfInBounds_toArray, List.set_cons_zero, List.set_cons_succ]
            refine take 7 42 (v := .agg #[.int .i64 c.kind, .bool c.b, .int .i64 c.n, .string (strB c.text), .slice pk2 c.keys.length ck2, .slice pl2 c.list.length cl2]) rfl rfl (by kernel_rfl) (by kernel_rfl) (by kernel_rfl) rfl (fun W hW => exec_load rfl rfl (get_val hW.three)) (by assumption) ?_
            simp only [Act.put, List.setIfInBounds_toArray, List.set_cons_zero, List.set_cons_succ]
            refine onlyCall 2 37 rfl rfl (by kernel_rfl) rfl (exec_call [.agg #[.int .i64 a.kind, .bool a.b, .int .i64 a.n, .string (strB a.text), .slice pk a.keys.length ck, .slice pl a.list.length cl], .agg #[.int .i64 b.kind, .bool b.b, .int .i64 b.n, .string (strB b.text), .slice pk' b.keys.length ck', .slice pl' b.list.length cl']] rfl rfl Tryz.func20 (by kernel_rfl) (by kernel_rfl)) ?_
            refine (C1.out _ (-1) hU rfl).mono ?_
            rintro e w' ⟨rfl, hU⟩
            refine ⟨_, rfl, .inr (by assumption), ?_⟩
            simp only [Act.put, List.setIfInBounds_toArray, List.set_cons_zero, List.set_cons_succ]
            refine onlyCall 5 40 rfl rfl (by kernel_rfl) rfl (exec_call [.agg #[.int .i64 b.kind, .bool b.b, .int .i64 b.n, .string (strB b.text), .slice pk' b.keys.length ck', .slice pl' b.list.length cl'], .agg #[.int .i64 c.kind, .bool c.b, .int .i64 c.n, .string (strB c.text), .slice pk2 c.keys.length ck2, .slice pl2 c.list.length cl2]] rfl rfl Tryz.func20 (by kernel_rfl) (by kernel_rfl)) ?_
            refine (C2.out _ (-1) hU rfl).mono ?_
            rintro e w' ⟨rfl, hU⟩
            refine ⟨_, rfl, .inr (by assumption), ?_⟩
            simp only [Act.put, List.setIfInBounds_toArray, List.set_cons_zero, List.set_cons_succ]
            refine onlyCall 8 43 rfl rfl (by kernel_rfl) rfl (exec_call [.agg #[.int .i64 a.kind, .bool a.b, .int .i64 a.n, .string (strB a.text), .slice pk a.keys.length ck, .slice pl a.list.length cl], .agg #[.int .i64 c.kind, .bool c.b, .int .i64 c.n, .string (strB c.text), .slice pk2 c.keys.length ck2, .slice pl2 c.list.length cl2]] rfl rfl Tryz.func20 (by kernel_rfl) (by kernel_rfl)) ?_
            refine (C3.out _ (-1) hU rfl).mono ?_
            rintro e w' ⟨rfl, hU⟩
            refine ⟨_, rfl, .inr (by assumption), ?_⟩
            simp only [Act.put, List.setIfInBounds_toArray, List.set_cons_zero, List.set_cons_succ]
            refine take 9 7 (v := .int .i64 (-1)) rfl rfl (by kernel_rfl) (by kernel_rfl) (by kernel_rfl) rfl (fun W hW => exec_assign rfl rfl) (by assumption) ?_
            simp only [Act.put, List.setIfInBounds_toArray, List.set_cons_zero, List.set_cons_succ]
            refine take 10 8 (v := .int .i64 (-1)) rfl rfl (by kernel_rfl) (by kernel_rfl) (by kernel_rfl) rfl (fun W hW => exec_assign rfl rfl) (by assumption) ?_
            simp only [Act.put, List.setIfInBounds_toArray, List.set_cons_zero, List.set_cons_succ]
            refine take 11 9 (v := .int .i64 (-1)) rfl rfl (by kernel_rfl) (by kernel_rfl) (by kernel_rfl) rfl (fun W hW => exec_assign rfl rfl) (by assumption) ?_
            simp only [Act.put, List.setIfInBounds_toArray, List.set_cons_zero, List.set_cons_succ]
            refine done (by kernel_rfl) ?_ _
            have HT := Lib.hid hU
            have px0 := cellOf (o := 0) hU.one rfl; have px1 := cellOf (o := 1) hU.one rfl; have px2 := cellOf (o := 2) hU.one rfl; have px3 := cellOf (o := 3) hU.one rfl; have px4 := cellOf (o := 4) hU.one rfl; have px5 := cellOf (o := 5) hU.one rfl
            have py0 := cellOf (o := 0) hU.two rfl; have py1 := cellOf (o := 1) hU.two rfl; have py2 := cellOf (o := 2) hU.two rfl; have py3 := cellOf (o := 3) hU.two rfl; have py4 := cellOf (o := 4) hU.two rfl; have py5 := cellOf (o := 5) hU.two rfl
            have pz0 := cellOf (o := 0) hU.three rfl; have pz1 := cellOf (o := 1) hU.three rfl; have pz2 := cellOf (o := 2) hU.three rfl; have pz3 := cellOf (o := 3) hU.three rfl; have pz4 := cellOf (o := 4) hU.three rfl; have pz5 := cellOf (o := 5) hU.three rfl
            clear hU
            go_wp2_with (first
              | (go_at_call 20
                 (refine (C4.out _ 1 HT.out rfl).mono ?_
                  rintro e w5 ⟨rfl, hT1⟩
                  have px0 := cellOf (o := 0) hT1.one rfl; have px1 := cellOf (o := 1) hT1.one rfl; have px2 := cellOf (o := 2) hT1.one rfl; have px3 := cellOf (o := 3) hT1.one rfl; have px4 := cellOf (o := 4) hT1.one rfl; have px5 := cellOf (o := 5) hT1.one rfl
                  have py0 := cellOf (o := 0) hT1.two rfl; have py1 := cellOf (o := 1) hT1.two rfl; have py2 := cellOf (o := 2) hT1.two rfl; have py3 := cellOf (o := 3) hT1.two rfl; have py4 := cellOf (o := 4) hT1.two rfl; have py5 := cellOf (o := 5) hT1.two rfl
                  have pz0 := cellOf (o := 0) hT1.three rfl; have pz1 := cellOf (o := 1) hT1.three rfl; have pz2 := cellOf (o := 2) hT1.three rfl; have pz3 := cellOf (o := 3) hT1.three rfl; have pz4 := cellOf (o := 4) hT1.three rfl; have pz5 := cellOf (o := 5) hT1.three rfl
                  have HT := Lib.hid hT1
                  clear hT1 C4))
              | (go_at_call 20
                 (refine (C5.out _ HT.out).mono ?_
                  rintro e w6 ⟨rfl, hT1⟩
                  have px0 := cellOf (o := 0) hT1.one rfl; have px1 := cellOf (o := 1) hT1.one rfl; have px2 := cellOf (o := 2) hT1.one rfl; have px3 := cellOf (o := 3) hT1.one rfl; have px4 := cellOf (o := 4) hT1.one rfl; have px5 := cellOf (o := 5) hT1.one rfl
                  have py0 := cellOf (o := 0) hT1.two rfl; have py1 := cellOf (o := 1) hT1.two rfl; have py2 := cellOf (o := 2) hT1.two rfl; have py3 := cellOf (o := 3) hT1.two rfl; have py4 := cellOf (o := 4) hT1.two rfl; have py5 := cellOf (o := 5) hT1.two rfl
                  have HT := Lib.hid hT1
                  clear hT1 C5))
              | (go_at_call 21
                 (refine (C6.out _ false HT.out rfl).mono ?_
                  rintro e w7 ⟨rfl, hT1⟩
                  have HT := Lib.hid hT1
                  clear hT1))
              | (go_at_call 16
                 (refine (HW.out _ HT.out).mono ?_
                  rintro e w9 ⟨rfl, hT1⟩
                  have HT := Lib.hid hT1
                  clear hT1)))
            go_ret
            exact ⟨rfl, HT.out.below⟩
          · refine take 0 35 (v := .agg #[.int .i64 a.kind, .bool a.b, .int .i64 a.n, .string (strB a.text), .slice pk a.keys.length ck, .slice pl a.list.length cl]) rfl rfl (by kernel_rfl) (by kernel_rfl) (by kernel_rfl) rfl (fun W hW => exec_load rfl rfl (get_val hW.one)) (by assumption) ?_
            simp only [Act.put, List.setIfInBounds_toArray, List.set_cons_zero, List.set_cons_succ]
            refine take 1 36 (v := .agg #[.int .i64 b.kind, .bool b.b, .int .i64 b.n, .string (strB b.text), .slice pk' b.keys.length ck', .slice pl' b.list.length cl']) rfl rfl (by kernel_rfl) (by kernel_rfl) (by kernel_rfl) rfl (fun W hW => exec_load rfl rfl (get_val hW.two)) (by assumption) ?_
            simp only [Act.put, List.setIfInBounds_toArray, List.set_cons_zero, List.set_cons_succ]
            refine take 3 38 (v := .agg #[.int .i64 b.kind, .bool b.b, .int .i64 b.n, .string (strB b.text), .slice pk' b.keys.length ck', .slice pl' b.list.length cl']) rfl rfl (by kernel_rfl) (by kernel_rfl) (by kernel_rfl) rfl (fun W hW => exec_load rfl rfl (get_val hW.two)) (by assumption) ?_
            simp only [Act.put, List.setIfInBounds_toArray, List.set_cons_zero, List.set_cons_succ]
            refine take 4 39 (v := .agg #[.int .i64 c.kind, .bool c.b, .int .i64 c.n, .string (strB c.text), .slice pk2 c.keys.length ck2, .slice pl2 c.list.length cl2]) rfl rfl (by kernel_rfl) (by kernel_rfl) (by kernel_rfl) rfl (fun W hW => exec_load rfl rfl (get_val hW.three)) (by assumption) ?_
            simp only [Act.put, List.setIfInBounds_toArray, List.set_cons_zero, List.set_cons_succ]
            refine take 6 41 (v := .agg #[.int .i64 a.kind, .bool a.b, .int .i64 a.n, .string (strB a.text), .slice pk a.keys.length ck, .slice pl a.list.length cl]) rfl rfl (by kernel_rfl) (by kernel_rfl) (by kernel_rfl) rfl (fun W hW => exec_load rfl rfl (get_val hW.one)) (by assumption) ?_
            simp only [Act.put, List.setIfInBounds_toArray, List.set_cons_zero, List.set_cons_succ]
            refine take 7 42 (v := .agg #[.int .i64 c.kind, .bool c.b, .int .i64 c.n, .string (strB c.text), .slice pk2 c.keys.length ck2, .slice pl2 c.list.length cl2]) rfl rfl (by kernel_rfl) (by kernel_rfl) (by kernel_rfl) rfl (fun W hW => exec_load rfl rfl (get_val hW.three)) (by assumption) ?_
            simp only [Act.put, List.setIfInBounds_toArray, List.set_cons_zero, List.set_cons_succ]
            refine onlyCall 2 37 rfl rfl (by kernel_rfl) rfl (exec_call [.agg #[.int .i64 a.kind, .bool a.b, .int .i64 a.n, .string (strB a.text), .slice pk a.keys.length ck, .slice pl a.list.length cl], .agg #[.int .i64 b.kind, .bool b.b, .int .i64 b.n, .string (strB b.text), .slice pk' b.keys.length ck', .slice pl' b.list.length cl']] rfl rfl Tryz.func20 (by kernel_rfl) (by kernel_rfl)) ?_
            refine (C1.out _ (-1) hU rfl).mono ?_
            rintro e w' ⟨rfl, hU⟩
            refine ⟨_, rfl, .inr (by assumption), ?_⟩
            simp only [Act.put, List.setIfInBounds_toArray, List.set_cons_zero, List.set_cons_succ]
            refine onlyCall 5 40 rfl rfl (by kernel_rfl) rfl (exec_call [.agg #[.int .i64 b.kind, .bool b.b, .int .i64 b.n, .string (strB b.text), .slice pk' b.keys.length ck', .slice pl' b.list.length cl'], .agg #[.int .i64 c.kind, .bool c.b, .int .i64 c.n, .string (strB c.text), .slice pk2 c.keys.length ck2, .slice pl2 c.list.length cl2]] rfl rfl Tryz.func20 (by kernel_rfl) (by kernel_rfl)) ?_
            refine (C2.out _ 0 hU rfl).mono ?_
            rintro e w' ⟨rfl, hU⟩
            refine ⟨_, rfl, .inr (by assumption), ?_⟩
            simp only [Act.put, List.setIfInBounds_toArray, List.set_cons_zero, List.set_cons_succ]
            refine onlyCall 8 43 rfl rfl (by kernel_rfl) rfl (exec_call [.agg #[.int .i64 a.kind, .bool a.b, .int .i64 a.n, .string (strB a.text), .slice pk a.keys.length ck, .slice pl a.list.length cl], .agg #[.int .i64 c.kind, .bool c.b, .int .i64 c.n, .string (strB c.text), .slice pk2 c.keys.length ck2, .slice pl2 c.list.length cl2]] rfl rfl Tryz.func20 (by kernel_rfl) (by kernel_rfl)) ?_
            refine (C3.out _ (-1) hU rfl).mono ?_
            rintro e w' ⟨rfl, hU⟩
            refine ⟨_, rfl, .inr (by assumption), ?_⟩
            simp only [Act.put, List.setIfInBounds_toArray, List.set_cons_zero, List.set_cons_succ]
            refine take 9 7 (v := .int .i64 (-1)) rfl rfl (by kernel_rfl) (by kernel_rfl) (by kernel_rfl) rfl (fun W hW => exec_assign rfl rfl) (by assumption) ?_
            simp only [Act.put, List.setIfInBounds_toArray, List.set_cons_zero, List.set_cons_succ]
            refine take 10 8 (v := .int .i64 0) rfl rfl (by kernel_rfl) (by kernel_rfl) (by kernel_rfl) rfl (fun W hW => exec_assign rfl rfl) (by assumption) ?_
            simp only [Act.put, List.setIfInBounds_toArray, List.set_cons_zero, List.set_cons_succ]
            refine take 11 9 (v := .int .i64 (-1)) rfl rfl (by kernel_rfl) (by kernel_rfl) (by kernel_rfl) rfl (fun W hW => exec_assign rfl rfl) (by assumption) ?_
            simp only [Act.put, List.setIfInBounds_toArray, List.set_cons_zero, List.set_cons_succ]
            refine done (by kernel_rfl) ?_ _
            have HT := Lib.hid hU
            have px0 := cellOf (o := 0) hU.one rfl; have px1 := cellOf (o := 1) hU.one rfl; have px2 := cellOf (o := 2) hU.one rfl; have px3 := cellOf (o := 3) hU.one rfl; have px4 := cellOf (o := 4) hU.one rfl; have px5 := cellOf (o := 5) hU.one rfl
            have py0 := cellOf (o := 0) hU.two rfl; have py1 := cellOf (o := 1) hU.two rfl; have py2 := cellOf (o := 2) hU.two rfl; have py3 := cellOf (o := 3) hU.two rfl; have py4 := cellOf (o := 4) hU.two rfl; have py5 := cellOf (o := 5) hU.two rfl
            have pz0 := cellOf (o := 0) hU.three rfl; have pz1 := cellOf (o := 1) hU.three rfl; have pz2 := cellOf (o := 2) hU.three rfl; have pz3 := cellOf (o := 3) hU.three rfl; have pz4 := cellOf (o := 4) hU.three rfl; have pz5 := cellOf (o := 5) hU.three rfl
            clear hU
            go_wp2_with (first
              | (go_at_call 20
                 (refine (C4.out _ 1 HT.out rfl).mono ?_
                  rintro e w5 ⟨rfl, hT1⟩
                  have px0 := cellOf (o := 0) hT1.one rfl; have px1 := cellOf (o := 1) hT1.one rfl; have px2 := cellOf (o := 2) hT1.one rfl; have px3 := cellOf (o := 3) hT1.one rfl; have px4 := cellOf (o := 4) hT1.one rfl; have px5 := cellOf (o := 5) hT1.one rfl
                  have py0 := cellOf (o := 0) hT1.two rfl; have py1 := cellOf (o := 1) hT1.two rfl; have py2 := cellOf (o := 2) hT1.two rfl; have py3 := cellOf (o := 3) hT1.two rfl; have py4 := cellOf (o := 4) hT1.two rfl; have py5 := cellOf (o := 5) hT1.two rfl
                  have pz0 := cellOf (o := 0) hT1.three rfl; have pz1 := cellOf (o := 1) hT1.three rfl; have pz2 := cellOf (o := 2) hT1.three rfl; have pz3 := cellOf (o := 3) hT1.three rfl; have pz4 := cellOf (o := 4) hT1.three rfl; have pz5 := cellOf (o := 5) hT1.three rfl
                  have HT := Lib.hid hT1
                  clear hT1 C4))
              | (go_at_call 20
                 (refine (C5.out _ HT.out).mono ?_
                  rintro e w6 ⟨rfl, hT1⟩
                  have px0 := cellOf (o := 0) hT1.one rfl; have px1 := cellOf (o := 1) hT1.one rfl; have px2 := cellOf (o := 2) hT1.one rfl; have px3 := cellOf (o := 3) hT1.one rfl; have px4 := cellOf (o := 4) hT1.one rfl; have px5 := cellOf (o := 5) hT1.one rfl
                  have py0 := cellOf (o := 0) hT1.two rfl; have py1 := cellOf (o := 1) hT1.two rfl; have py2 := cellOf (o := 2) hT1.two rfl; have py3 := cellOf (o := 3) hT1.two rfl; have py4 := cellOf (o := 4) hT1.two rfl; have py5 := cellOf (o := 5) hT1.two rfl
                  have HT := Lib.hid hT1
                  clear hT1 C5))
              | (go_at_call 21
                 (refine (C6.out _ false HT.out rfl).mono ?_
                  rintro e w7 ⟨rfl, hT1⟩
                  have HT := Lib.hid hT1
                  clear hT1))
              | (go_at_call 16
                 (refine (HW.out _ HT.out).mono ?_
                  rintro e w9 ⟨rfl, hT1⟩
                  have HT := Lib.hid hT1
                  clear hT1)))
            go_ret
            exact ⟨rfl, HT.out.below⟩
          · refine take 0 35 (v := .agg #[.int .i64 a.kind, .bool a.b, .int .i64 a.n, .string (strB a.text), .slice pk a.keys.length ck, .slice pl a.list.length cl]) rfl rfl (by kernel_rfl) (by kernel_rfl) (by kernel_rfl) rfl (fun W hW => exec_load rfl rfl (get_val hW.one)) (by assumption) ?_
            simp only [Act.put, List.setIfInBounds_toArray, List.set_cons_zero, List.set_cons_succ]
            refine take 1 36 (v := .agg #[.int .i64 b.kind, .bool b.b, .int .i64 b.n, .string (strB b.text), .slice pk' b.keys.length ck', .slice pl' b.list.length cl']) rfl rfl (by kernel_rfl) (by kernel_rfl) (by kernel_rfl) rfl (fun W hW => exec_load rfl rfl (get_val hW.two)) (by assumption) ?_
            simp only [Act.put, List.setIfInBounds_toArray, List.set_cons_zero, List.set_cons_succ]
            refine take 3 38 (v := .agg #[.int .i64 b.kind, .bool b.b, .int .i64 b.n, .string (strB b.text), .slice pk' b.keys.length ck', .slice pl' b.list.length cl']) rfl rfl (by kernel_rfl) (by kernel_rfl) (by kernel_rfl) rfl (fun W hW => exec_load rfl rfl (get_val hW.two)) (by assumption) ?_
            simp only [Act.put, List.setIfInBounds_toArray, List.set_cons_zero, List.set_cons_succ]
            refine take 4 39 (v := .agg #[.int .i64 c.kind, .bool c.b, .int .i64 c.n, .string (strB c.text), .slice pk2 c.keys.length ck2, .slice pl2 c.list.length cl2]) rfl rfl (by kernel_rfl) (by kernel_rfl) (by kernel_rfl) rfl (fun W hW => exec_load rfl rfl (get_val hW.three)) (by assumption) ?_
            simp only [Act.put, List.setIfInBounds_toArray, List.set_cons_zero, List.set_cons_succ]
            refine take 6 41 (v := .agg #[.int .i64 a.kind, .bool a.b, .int .i64 a.n, .string (strB a.text), .slice pk a.keys.length ck, .slice pl a.list.length cl]) rfl rfl (by kernel_rfl) (by kernel_rfl) (by kernel_rfl) rfl (fun W hW => exec_load rfl rfl (get_val hW.one)) (by assumption) ?_
            simp only [Act.put, List.setIfInBounds_toArray, List.set_cons_zero, List.set_cons_succ]
            refine take 7 42 (v := .agg #[.int .i64 c.kind, .bool c.b, .int .i64 c.n, .string (strB c.text), .slice pk2 c.keys.length ck2, .slice pl2 c.list.length cl2]) rfl rfl (by kernel_rfl) (by kernel_rfl) (by kernel_rfl) rfl (fun W hW => exec_load rfl rfl (get_val hW.three)) (by assumption) ?_
            simp only [Act.put, List.setIfInBounds_toArray, List.set_cons_zero, List.set_cons_succ]
            refine onlyCall 2 37 rfl rfl (by kernel_rfl) rfl (exec_call [.agg #[.int .i64 a.kind, .bool a.b, .int .i64 a.n, .string (strB a.text), .slice pk a.keys.length ck, .slice pl a.list.length cl], .agg #[.int .i64 b.kind, .bool b.b, .int .i64 b.n, .string (strB b.text), .slice pk' b.keys.length ck', .slice pl' b.list.length cl']] rfl rfl Tryz.func20 (by kernel_rfl) (by kernel_rfl)) ?_
            refine (C1.out _ (-1) hU rfl).mono ?_
            rintro e w' ⟨rfl, hU⟩
            refine ⟨_, rfl, .inr (by assumption), ?_⟩
            simp only [Act.put, List.setIfInBounds_toArray, List.set_cons_zero, List.set_cons_succ]
            refine onlyCall 5 40 rfl rfl (by kernel_rfl) rfl (exec_call [.agg #[.int .i64 b.kind, .bool b.b, .int .i64 b.n, .string (strB b.text), .slice pk' b.keys.length ck', .slice pl' b.list.length cl'], .agg #[.int .i64 c.kind, .bool c.b, .int .i64 c.n, .string (strB c.text), .slice pk2 c.keys.length ck2, .slice pl2 c.list.length cl2]] rfl rfl Tryz.func20 (by kernel_rfl) (by kernel_rfl)) ?_
            refine (C2.out _ 1 hU rfl).mono ?_
            rintro e w' ⟨rfl, hU⟩
            refine ⟨_, rfl, .inr (by assumption), ?_⟩
            simp only [Act.put, List.setIfInBounds_toArray, List.set_cons_zero, List.set_cons_succ]
            refine onlyCall 8 43 rfl rfl (by kernel_rfl) rfl (exec_call [.agg #[.int .i64 a.kind, .bool a.b, .int .i64 a.n, .string (strB a.text), .slice pk a.keys.length ck, .slice pl a.list.length cl], .agg #[.int .i64 c.kind, .bool c.b, .int .i64 c.n, .string (strB c.text), .slice pk2 c.keys.length ck2, .slice pl2 c.list.length cl2]] rfl rfl Tryz.func20 (by kernel_rfl) (by kernel_rfl)) ?_
            refine (C3.out _ (-1) hU rfl).mono ?_
            rintro e w' ⟨rfl, hU⟩
            refine ⟨_, rfl, .inr (by assumption), ?_⟩
            simp only [Act.put, List.setIfInBounds_toArray, List.set_cons_zero, List.set_cons_succ]
            refine take 9 7 (v := .int .i64 (-1)) rfl rfl (by kernel_rfl) (by kernel_rfl) (by kernel_rfl) rfl (fun W hW => exec_assign rfl rfl) (by assumption) ?_
            simp only [Act.put, List.setIfInBounds_toArray, List.set_cons_zero, List.set_cons_succ]
            refine take 10 8 (v := .int .i64 1) rfl rfl (by kernel_rfl) (by kernel_rfl) (by kernel_rfl) rfl (fun W hW => exec_assign rfl rfl) (by assumption) ?_
            simp only [Act.put, List.setIfInBounds_toArray, List.set_cons_zero, List.set_cons_succ]
            refine take 11 9 (v := .int .i64 (-1)) rfl rfl (by kernel_rfl) (by kernel_rfl) (by kernel_rfl) rfl (fun W hW => exec_assign rfl rfl) (by assumption) ?_
            simp only [Act.put, List.setIfInBounds_toArray, List.set_cons_zero, List.set_cons_succ]
            refine done (by kernel_rfl) ?_ _
            have HT := Lib.hid hU
            have px0 := cellOf (o := 0) hU.one rfl; have px1 := cellOf (o := 1) hU.one rfl; have px2 := cellOf (o := 2) hU.one rfl; have px3 := cellOf (o := 3) hU.one rfl; have px4 := cellOf (o := 4) hU.one rfl; have px5 := cellOf (o := 5) hU.one rfl
            have py0 := cellOf (o := 0) hU.two rfl; have py1 := cellOf (o := 1) hU.two rfl; have py2 := cellOf (o := 2) hU.two rfl; have py3 := cellOf (o := 3) hU.two rfl; have py4 := cellOf (o := 4) hU.two rfl; have py5 := cellOf (o := 5) hU.two rfl
            have pz0 := cellOf (o := 0) hU.three rfl; have pz1 := cellOf (o := 1) hU.three rfl; have pz2 := cellOf (o := 2) hU.three rfl; have pz3 := cellOf (o := 3) hU.three rfl; have pz4 := cellOf (o := 4) hU.three rfl; have pz5 := cellOf (o := 5) hU.three rfl
            clear hU
            go_wp2_with (first
              | (go_at_call 20
                 (refine (C4.out _ 1 HT.out rfl).mono ?_
                  rintro e w5 ⟨rfl, hT1⟩
                  have px0 := cellOf (o := 0) hT1.one rfl; have px1 := cellOf (o := 1) hT1.one rfl; have px2 := cellOf (o := 2) hT1.one rfl; have px3 := cellOf (o := 3) hT1.one rfl; have px4 := cellOf (o := 4) hT1.one rfl; have px5 := cellOf (o := 5) hT1.one rfl
                  have py0 := cellOf (o := 0) hT1.two rfl; have py1 := cellOf (o := 1) hT1.two rfl; have py2 := cellOf (o := 2) hT1.two rfl; have py3 := cellOf (o := 3) hT1.two rfl; have py4 := cellOf (o := 4) hT1.two rfl; have py5 := cellOf (o := 5) hT1.two rfl
                  have pz0 := cellOf (o := 0) hT1.three rfl; have pz1 := cellOf (o := 1) hT1.three rfl; have pz2 := cellOf (o := 2) hT1.three rfl; have pz3 := cellOf (o := 3) hT1.three rfl; have pz4 := cellOf (o := 4) hT1.three rfl; have pz5 := cellOf (o := 5) hT1.three rfl
                  have HT := Lib.hid hT1
                  clear hT1 C4))
              | (go_at_call 20
                 (refine (C5.out _ HT.out).mono ?_
                  rintro e w6 ⟨rfl, hT1⟩
                  have px0 := cellOf (o := 0) hT1.one rfl; have px1 := cellOf (o := 1) hT1.one rfl; have px2 := cellOf (o := 2) hT1.one rfl; have px3 := cellOf (o := 3) hT1.one rfl; have px4 := cellOf (o := 4) hT1.one rfl; have px5 := cellOf (o := 5) hT1.one rfl
                  have py0 := cellOf (o := 0) hT1.two rfl; have py1 := cellOf (o := 1) hT1.two rfl; have py2 := cellOf (o := 2) hT1.two rfl; have py3 := cellOf (o := 3) hT1.two rfl; have py4 := cellOf (o := 4) hT1.two rfl; have py5 := cellOf (o := 5) hT1.two rfl
                  have HT := Lib.hid hT1
                  clear hT1 C5))
              | (go_at_call 21
                 (refine (C6.out _ false HT.out rfl).mono ?_
                  rintro e w7 ⟨rfl, hT1⟩
                  have HT := Lib.hid hT1
                  clear hT1))
              | (go_at_call 16
                 (refine (HW.out _ HT.out).mono ?_
                  rintro e w9 ⟨rfl, hT1⟩
                  have HT := Lib.hid hT1
                  clear hT1)))
            go_ret
            exact ⟨rfl, HT.out.below⟩
          · refine take 0 35 (v := .agg #[.int .i64 a.kind, .bool a.b, .int .i64 a.n, .string (strB a.text), .slice pk a.keys.length ck, .slice pl a.list.length cl]) rfl rfl (by kernel_rfl) (by kernel_rfl) (by kernel_rfl) rfl (fun W hW => exec_load rfl rfl (get_val hW.one)) (by assumption) ?_
            simp only [Act.put, List.setIfInBounds_toArray, List.set_cons_zero, List.set_cons_succ]
            refine take 1 36 (v := .agg #[.int .i64 b.kind, .bool b.b, .int .i64 b.n, .string (strB b.text), .slice pk' b.keys.length ck', .slice pl' b.list.length cl']) rfl rfl (by kernel_rfl) (by kernel_rfl) (by kernel_rfl) rfl (fun W hW => exec_load rfl rfl (get_val hW.two)) (by assumption) ?_
            simp only [Act.put, List.setIfInBounds_toArray, List.set_cons_zero, List.set_cons_succ]
            refine take 3 38 (v := .agg #[.int .i64 b.kind, .bool b.b, .int .i64 b.n, .string (strB b.text), .slice pk' b.keys.length ck', .slice pl' b.list.length cl']) rfl rfl (by kernel_rfl) (by kernel_rfl) (by kernel_rfl) rfl (fun W hW => exec_load rfl rfl (get_val hW.two)) (by assumption) ?_
            simp only [Act.put, List.setIfInBounds_toArray, List.set_cons_zero, List.set_cons_succ]
            refine take 4 39 (v := .agg #[.int .i64 c.kind, .bool c.b, .int .i64 c.n, .string (strB c.text), .slice pk2 c.keys.length ck2, .slice pl2 c.list.length cl2]) rfl rfl (by kernel_rfl) (by kernel_rfl) (by kernel_rfl) rfl (fun W hW => exec_load rfl rfl (get_val hW.three)) (by assumption) ?_
            simp only [Act.put, List.setIfInBounds_toArray, List.set_cons_zero, List.set_cons_succ]
            refine take 6 41 (v := .agg #[.int .i64 a.kind, .bool a.b, .int .i64 a.n, .string (strB a.text), .slice pk a.keys.length ck, .slice pl a.list.length cl]) rfl rfl (by kernel_rfl) (by kernel_rfl) (by kernel_rfl) rfl (fun W hW => exec_load rfl rfl (get_val hW.one)) (by assumption) ?_
            simp only [Act.put, List.setIfInBounds_toArray, List.set_cons_zero, List.set_cons_succ]
            refine take 7 42 (v := .agg #[.int .i64 c.kind, .bool c.b, .int .i64 c.n, .string (strB c.text), .slice pk2 c.keys.length ck2, .slice pl2 c.list.length cl2]) rfl rfl (by kernel_rfl) (by kernel_rfl) (by kernel_rfl) rfl (fun W hW => exec_load rfl rfl (get_val hW.three)) (by assumption) ?_
            simp only [Act.put, List.setIfInBounds_toArray, List.set_cons_zero, List.set_cons_succ]
            refine onlyCall 2 37 rfl rfl (by kernel_rfl) rfl (exec_call [.agg #[.int .i64 a.kind, .bool a.b, .int .i64 a.n, .string (strB a.text), .slice pk a.keys.length ck, .slice pl a.list.length cl], .agg #[.int .i64 b.kind, .bool b.b, .int .i64 b.n, .string (strB b.text), .slice pk' b.keys.length ck', .slice pl' b.list.length cl']] rfl rfl Tryz.func20 (by kernel_rfl) (by kernel_rfl)) ?_
            refine (C1.out _ (-1) hU rfl).mono ?_
            rintro e w' ⟨rfl, hU⟩
            refine ⟨_, rfl, .inr (by assumption), ?_⟩
            simp only [Act.put, List.setIfInBounds_toArray, List.set_cons_zero, List.set_cons_succ]
            refine onlyCall 5 40 rfl rfl (by kernel_rfl) rfl (exec_call [.agg #[.int .i64 b.kind, .bool b.b, .int .i64 b.n, .string (strB b.text), .slice pk' b.keys.length ck', .slice pl' b.list.length cl'], .agg #[.int .i64 c.kind, .bool c.b, .int .i64 c.n, .string (strB c.text), .slice pk2 c.keys.length ck2, .slice pl2 c.list.length cl2]] rfl rfl Tryz.func20 (by kernel_rfl) (by kernel_rfl)) ?_
            refine (C2.out _ 1 hU rfl).mono ?_
            rintro e w' ⟨rfl, hU⟩
            refine ⟨_, rfl, .inr (by assumption), ?_⟩
            simp only [Act.put, List.setIfInBounds_toArray, List.set_cons_zero, List.set_cons_succ]
            refine onlyCall 8 43 rfl rfl (by kernel_rfl) rfl (exec_call [.agg #[.int .i64 a.kind, .bool a.b, .int .i64 a.n, .string (strB a.text), .slice pk a.keys.length ck, .slice pl a.list.length cl], .agg #[.int .i64 c.kind, .bool c.b, .int .i64 c.n, .string (strB c.text), .slice pk2 c.keys.length ck2, .slice pl2 c.list.length cl2]] rfl rfl Tryz.func20 (by kernel_rfl) (by kernel_rfl)) ?_
            refine (C3.out _ 0 hU rfl).mono ?_
            rintro e w' ⟨rfl, hU⟩
            refine ⟨_, rfl, .inr (by assumption), ?_⟩
            simp only [Act.put, List.setIfInBounds_toArray, List.set_cons_zero, List.set_cons_succ]
            refine take 9 7 (v := .int .i64 (-1)) rfl rfl (by kernel_rfl) (by kernel_rfl) (by kernel_rfl) rfl (fun W hW => exec_assign rfl rfl) (by assumption) ?_
            simp only [Act.put, List.setIfInBounds_toArray, List.set_cons_zero, List.set_cons_succ]
            refine take 10 8 (v := .int .i64 1) rfl rfl (by kernel_rfl) (by kernel_rfl) (by kernel_rfl) rfl (fun W hW => exec_assign rfl rfl) (by assumption) ?_
            simp only [Act.put, List.setIfInBounds_toArray, List.set_cons_zero, List.set_cons_succ]
            refine take 11 9 (v := .int .i64 0) rfl rfl (by kernel_rfl) (by kernel_rfl) (by kernel_rfl) rfl (fun W hW => exec_assign rfl rfl) (by assumption) ?_
            simp only [Act.put, List.setIfInBounds_toArray, List.set_cons_zero, List.set_cons_succ]
            refine done (by kernel_rfl) ?_ _
            have HT := Lib.hid hU
            have px0 := cellOf (o := 0) hU.one rfl; have px1 := cellOf (o := 1) hU.one rfl; have px2 := cellOf (o := 2) hU.one rfl; have px3 := cellOf (o := 3) hU.one rfl; have px4 := cellOf (o := 4) hU.one rfl; have px5 := cellOf (o := 5) hU.one rfl
            have py0 := cellOf (o := 0) hU.two rfl; have py1 := cellOf (o := 1) hU.two rfl; have py2 := cellOf (o := 2) hU.two rfl; have py3 := cellOf (o := 3) hU.two rfl; have py4 := cellOf (o := 4) hU.two rfl; have py5 := cellOf (o := 5) hU.two rfl
            have pz0 := cellOf (o := 0) hU.three rfl; have pz1 := cellOf (o := 1) hU.three rfl; have pz2 := cellOf (o := 2) hU.three rfl; have pz3 := cellOf (o := 3) hU.three rfl; have pz4 := cellOf (o := 4) hU.three rfl; have pz5 := cellOf (o := 5) hU.three rfl
            clear hU
            go_wp2_with (first
              | (go_at_call 20
                 (refine (C4.out _ 1 HT.out rfl).mono ?_
                  rintro e w5 ⟨rfl, hT1⟩
                  have px0 := cellOf (o := 0) hT1.one rfl; have px1 := cellOf (o := 1) hT1.one rfl; have px2 := cellOf (o := 2) hT1.one rfl; have px3 := cellOf (o := 3) hT1.one rfl; have px4 := cellOf (o := 4) hT1.one rfl; have px5 := cellOf (o := 5) hT1.one rfl
                  have py0 := cellOf (o := 0) hT1.two rfl; have py1 := cellOf (o := 1) hT1.two rfl; have py2 := cellOf (o := 2) hT1.two rfl; have py3 := cellOf (o := 3) hT1.two rfl; have py4 := cellOf (o := 4) hT1.two rfl; have py5 := cellOf (o := 5) hT1.two rfl
                  have pz0 := cellOf (o := 0) hT1.three rfl; have pz1 := cellOf (o := 1) hT1.three rfl; have pz2 := cellOf (o := 2) hT1.three rfl; have pz3 := cellOf (o := 3) hT1.three rfl; have pz4 := cellOf (o := 4) hT1.three rfl; have pz5 := cellOf (o := 5) hT1.three rfl
                  have HT := Lib.hid hT1
                  clear hT1 C4))
              | (go_at_call 20
                 (refine (C5.out _ HT.out).mono ?_
                  rintro e w6 ⟨rfl, hT1⟩
                  have px0 := cellOf (o := 0) hT1.one rfl; have px1 := cellOf (o := 1) hT1.one rfl; have px2 := cellOf (o := 2) hT1.one rfl; have px3 := cellOf (o := 3) hT1.one rfl; have px4 := cellOf (o := 4) hT1.one rfl; have px5 := cellOf (o := 5) hT1.one rfl
                  have py0 := cellOf (o := 0) hT1.two rfl; have py1 := cellOf (o := 1) hT1.two rfl; have py2 := cellOf (o := 2) hT1.two rfl; have py3 := cellOf (o := 3) hT1.two rfl; have py4 := cellOf (o := 4) hT1.two rfl; have py5 := cellOf (o := 5) hT1.two rfl
                  have HT := Lib.hid hT1
                  clear hT1 C5))
              | (go_at_call 21
                 (refine (C6.out _ false HT.out rfl).mono ?_
                  rintro e w7 ⟨rfl, hT1⟩
                  have HT := Lib.hid hT1
                  clear hT1))
              | (go_at_call 16
                 (refine (HW.out _ HT.out).mono ?_
                  rintro e w9 ⟨rfl, hT1⟩
                  have HT := Lib.hid hT1
                  clear hT1)))
            go_ret
            exact ⟨rfl, HT.out.below⟩
          · refine take 0 35 (v := .agg #[.int .i64 a.kind, .bool a.b, .int .i64 a.n, .string (strB a.text), .slice pk a.keys.length ck, .slice pl a.list.length cl]) rfl rfl (by kernel_rfl) (by kernel_rfl) (by kernel_rfl) rfl (fun W hW => exec_load rfl rfl (get_val hW.one)) (by assumption) ?_
            simp only [Act.put, List.setIfInBounds_toArray, List.set_cons_zero, List.set_cons_succ]
            refine take 1 36 (v := .agg #[.int .i64 b.kind, .bool b.b, .int .i64 b.n, .string (strB b.text), .slice pk' b.keys.length ck', .slice pl' b.list.length cl']) rfl rfl (by kernel_rfl) (by kernel_rfl) (by kernel_rfl) rfl (fun W hW => exec_load rfl rfl (get_val hW.two)) (by assumption) ?_
            simp only [Act.put, List.setIfInBounds_toArray, List.set_cons_zero, List.set_cons_succ]
            refine take 3 38 (v := .agg #[.int .i64 b.kind, .bool b.b, .int .i64 b.n, .string (strB b.text), .slice pk' b.keys.length ck', .slice pl' b.list.length cl']) rfl rfl (by kernel_rfl) (by kernel_rfl) (by kernel_rfl) rfl (fun W hW => exec_load rfl rfl (get_val hW.two)) (by assumption) ?_
            simp only [Act.put, List.setIfInBounds_toArray, List.set_cons_zero, List.set_cons_succ]
            refine take 4 39 (v := .agg #[.int .i64 c.kind, .bool c.b, .int .i64 c.n, .string (strB c.text), .slice pk2 c.keys.length ck2, .slice pl2 c.list.length cl2]) rfl rfl (by kernel_rfl) (by kernel_rfl) (by kernel_rfl) rfl (fun W hW => exec_load rfl rfl (get_val hW.three)) (by assumption) ?_
            simp only [Act.put, List.setIfInBounds_toArray, List.set_cons_zero, List.set_cons_succ]
            refine take 6 41 (v := .agg #[.int .i64 a.kind, .bool a.b, .int .i64 a.n, .string (strB a.text), .slice pk a.keys.length ck, .slice pl a.list.length cl]) rfl rfl (by kernel_rfl) (by kernel_rfl) (by kernel_rfl) rfl (fun W hW => exec_load rfl rfl (get_val hW.one)) (by assumption) ?_
            simp only [Act.put, List.setIfInBounds_toArray, List.set_cons_zero, List.set_cons_succ]
            refine take 7 42 (v := .agg #[.int .i64 c.kind, .bool c.b, .int .i64 c.n, .string (strB c.text), .slice pk2 c.keys.length ck2, .slice pl2 c.list.length cl2]) rfl rfl (by kernel_rfl) (by kernel_rfl) (by kernel_rfl) rfl (fun W hW => exec_load rfl rfl (get_val hW.three)) (by assumption) ?_
            simp only [Act.put, List.setIfInBounds_toArray, List.set_cons_zero, List.set_cons_succ]
            refine onlyCall 2 37 rfl rfl (by kernel_rfl) rfl (exec_call [.agg #[.int .i64 a.kind, .bool a.b, .int .i64 a.n, .string (strB a.text), .slice pk a.keys.length ck, .slice pl a.list.length cl], .agg #[.int .i64 b.kind, .bool b.b, .int .i64 b.n, .string (strB b.text), .slice pk' b.keys.length ck', .slice pl' b.list.length cl']] rfl rfl Tryz.func20 (by kernel_rfl) (by kernel_rfl)) ?_
            refine (C1.out _ (-1) hU rfl).mono ?_
            rintro e w' ⟨rfl, hU⟩
            refine ⟨_, rfl, .inr (by assumption), ?_⟩
            simp only [Act.put, List.setIfInBounds_toArray, List.set_cons_zero, List.set_cons_succ]
            refine onlyCall 5 40 rfl rfl (by kernel_rfl) rfl (exec_call [.agg #[.int .i64 b.kind, .bool b.b, .int .i64 b.n, .string (strB b.text), .slice pk' b.keys.length ck', .slice pl' b.list.length cl'], .agg #[.int .i64 c.kind, .bool c.b, .int .i64 c.n, .string (strB c.text), .slice pk2 c.keys.length ck2, .slice pl2 c.list.length cl2]] rfl rfl Tryz.func20 (by kernel_rfl) (by kernel_rfl)) ?_
            refine (C2.out _ 1 hU rfl).mono ?_
            rintro e w' ⟨rfl, hU⟩
            refine ⟨_, rfl, .inr (by assumption), ?_⟩
            simp only [Act.put, List.setIfInBounds_toArray, List.set_cons_zero, List.set_cons_succ]
            refine onlyCall 8 43 rfl rfl (by kernel_rfl) rfl (exec_call [.agg #[.int .i64 a.kind, .bool a.b, .int .i64 a.n, .string (strB a.text), .slice pk a.keys.length ck, .slice pl a.list.length cl], .agg #[.int .i64 c.kind, .bool c.b, .int .i64 c.n, .string (strB c.text), .slice pk2 c.keys.length ck2, .slice pl2 c.list.length cl2]] rfl rfl Tryz.func20 (by kernel_rfl) (by kernel_rfl)) ?_
            refine (C3.out _ 1 hU rfl).mono ?_
            rintro e w' ⟨rfl, hU⟩
            refine ⟨_, rfl, .inr (by assumption), ?_⟩
            simp only [Act.put, List.setIfInBounds_toArray, List.set_cons_zero, List.set_cons_succ]
            refine take 9 7 (v := .int .i64 (-1)) rfl rfl (by kernel_rfl) (by kernel_rfl) (by kernel_rfl) rfl (fun W hW => exec_assign rfl rfl) (by assumption) ?_
            simp only [Act.put, List.setIfInBounds_toArray, List.set_cons_zero, List.set_cons_succ]
            refine take 10 8 (v := .int .i64 1) rfl rfl (by kernel_rfl) (by kernel_rfl) (by kernel_rfl) rfl (fun W hW => exec_assign rfl rfl) (by assumption) ?_
            simp only [Act.put, List.setIfInBounds_toArray, List.set_cons_zero, List.set_cons_succ]
            refine take 11 9 (v := .int .i64 1) rfl rfl (by kernel_rfl) (by kernel_rfl) (by kernel_rfl) rfl (fun W hW => exec_assign rfl rfl) (by assumption) ?_
            simp only [Act.put, List.setIfInBounds_toArray, List.set_cons_zero, List.set_cons_succ]
            refine done (by kernel_rfl) ?_ _
            have HT := Lib.hid hU
            have px0 := cellOf (o := 0) hU.one rfl; have px1 := cellOf (o := 1) hU.one rfl; have px2 := cellOf (o := 2) hU.one rfl; have px3 := cellOf (o := 3) hU.one rfl; have px4 := cellOf (o := 4) hU.one rfl; have px5 := cellOf (o := 5) hU.one rfl
            have py0 := cellOf (o := 0) hU.two rfl; have py1 := cellOf (o := 1) hU.two rfl; have py2 := cellOf (o := 2) hU.two rfl; have py3 := cellOf (o := 3) hU.two rfl; have py4 := cellOf (o := 4) hU.two rfl; have py5 := cellOf (o := 5) hU.two rfl
            have pz0 := cellOf (o := 0) hU.three rfl; have pz1 := cellOf (o := 1) hU.three rfl; have pz2 := cellOf (o := 2) hU.three rfl; have pz3 := cellOf (o := 3) hU.three rfl; have pz4 := cellOf (o := 4) hU.three rfl; have pz5 := cellOf (o := 5) hU.three rfl
            clear hU
            go_wp2_with (first
              | (go_at_call 20
                 (refine (C4.out _ 1 HT.out rfl).mono ?_
                  rintro e w5 ⟨rfl, hT1⟩
                  have px0 := cellOf (o := 0) hT1.one rfl; have px1 := cellOf (o := 1) hT1.one rfl; have px2 := cellOf (o := 2) hT1.one rfl; have px3 := cellOf (o := 3) hT1.one rfl; have px4 := cellOf (o := 4) hT1.one rfl; have px5 := cellOf (o := 5) hT1.one rfl
                  have py0 := cellOf (o := 0) hT1.two rfl; have py1 := cellOf (o := 1) hT1.two rfl; have py2 := cellOf (o := 2) hT1.two rfl; have py3 := cellOf (o := 3) hT1.two rfl; have py4 := cellOf (o := 4) hT1.two rfl; have py5 := cellOf (o := 5) hT1.two rfl
                  have pz0 := cellOf (o := 0) hT1.three rfl; have pz1 := cellOf (o := 1) hT1.three rfl; have pz2 := cellOf (o := 2) hT1.three rfl; have pz3 := cellOf (o := 3) hT1.three rfl; have pz4 := cellOf (o := 4) hT1.three rfl; have pz5 := cellOf (o := 5) hT1.three rfl
                  have HT := Lib.hid hT1
                  clear hT1 C4))
              | (go_at_call 20
                 (refine (C5.out _ HT.out).mono ?_
                  rintro e w6 ⟨rfl, hT1⟩
                  have px0 := cellOf (o := 0) hT1.one rfl; have px1 := cellOf (o := 1) hT1.one rfl; have px2 := cellOf (o := 2) hT1.one rfl; have px3 := cellOf (o := 3) hT1.one rfl; have px4 := cellOf (o := 4) hT1.one rfl; have px5 := cellOf (o := 5) hT1.one rfl
                  have py0 := cellOf (o := 0) hT1.two rfl; have py1 := cellOf (o := 1) hT1.two rfl; have py2 := cellOf (o := 2) hT1.two rfl; have py3 := cellOf (o := 3) hT1.two rfl; have py4 := cellOf (o := 4) hT1.two rfl; have py5 := cellOf (o := 5) hT1.two rfl
                  have HT := Lib.hid hT1
                  clear hT1 C5))
              | (go_at_call 21
                 (refine (C6.out _ false HT.out rfl).mono ?_
                  rintro e w7 ⟨rfl, hT1⟩
                  have HT := Lib.hid hT1
                  clear hT1))
              | (go_at_call 16
                 (refine (HW.out _ HT.out).mono ?_
                  rintro e w9 ⟨rfl, hT1⟩
                  have HT := Lib.hid hT1
                  clear hT1)))
            go_ret
            exact ⟨rfl, HT.out.below⟩
          · refine take 0 35 (v := .agg #[.int .i64 a.kind, .bool a.b, .int .i64 a.n, .string (strB a.text), .slice pk a.keys.length ck, .slice pl a.list.length cl]) rfl rfl (by kernel_rfl) (by kernel_rfl) (by kernel_rfl) rfl (fun W hW => exec_load rfl rfl (get_val hW.one)) (by assumption) ?_
            simp only [Act.put, List.setIfInBounds_toArray, List.set_cons_zero, List.set_cons_succ]
            refine take 1 36 (v := .agg #[.int .i64 b.kind, .bool b.b, .int .i64 b.n, .string (strB b.text), .slice pk' b.keys.length ck', .slice pl' b.list.length cl']) rfl rfl (by kernel_rfl) (by kernel_rfl) (by kernel_rfl) rfl (fun W hW => exec_load rfl rfl (get_val hW.two)) (by assumption) ?_
            simp only [Act.put, List.setIfInBounds_toArray, List.set_cons_zero, List.set_cons_succ]
            refine take 3 38 (v := .agg #[.int .i64 b.kind, .bool b.b, .int .i64 b.n, .string (strB b.text), .slice pk' b.keys.length ck', .slice pl' b.list.length cl']) rfl rfl (by kernel_rfl) (by kernel_rfl) (by kernel_rfl) rfl (fun W hW => exec_load rfl rfl (get_val hW.two)) (by assumption) ?_
            simp only [Act.put, List.setIfInBounds_toArray, List.set_cons_zero, List.set_cons_succ]
            refine take 4 39 (v := .agg #[.int .i64 c.kind, .bool c.b, .int .i64 c.n, .string (strB c.text), .slice pk2 c.keys.length ck2, .slice pl2 c.list.length cl2]) rfl rfl (by kernel_rfl) (by kernel_rfl) (by kernel_rfl) rfl (fun W hW => exec_load rfl rfl (get_val hW.three)) (by assumption) ?_
            simp only [Act.put, List.setIfInBounds_toArray, List.set_cons_zero, List.set_cons_succ]
            refine take 6 41 (v := .agg #[.int .i64 a.kind, .bool a.b, .int .i64 a.n, .string (strB a.text), .slice pk a.keys.length ck, .slice pl a.list.length cl]) rfl rfl (by kernel_rfl) (by kernel_rfl) (by kernel_rfl) rfl (fun W hW => exec_load rfl rfl (get_val hW.one)) (by assumption) ?_
            simp only [Act.put, List.setIfInBounds_toArray, List.set_cons_zero, List.set_cons_succ]
            refine take 7 42 (v := .agg #[.int .i64 c.kind, .bool c.b, .int .i64 c.n, .string (strB c.text), .slice pk2 c.keys.length ck2, .slice pl2 c.list.length cl2]) rfl rfl (by kernel_rfl) (by kernel_rfl) (by kernel_rfl) rfl (fun W hW => exec_load rfl rfl (get_val hW.three)) (by assumption) ?_
            simp only [Act.put, List.setIfInBounds_toArray, List.set_cons_zero, List.set_cons_succ]
            refine onlyCall 2 37 rfl rfl (by kernel_rfl) rfl (exec_call [.agg #[.int .i64 a.kind, .bool a.b, .int .i64 a.n, .string (strB a.text), .slice pk a.keys.length ck, .slice pl a.list.length cl], .agg #[.int .i64 b.kind, .bool b.b, .int .i64 b.n, .string (strB b.text), .slice pk' b.keys.length ck', .slice pl' b.list.length cl']] rfl rfl Tryz.func20 (by kernel_rfl) (by kernel_rfl)) ?_
            refine (C1.out _ 1 hU rfl).mono ?_
            rintro e w' ⟨rfl, hU⟩
            refine ⟨_, rfl, .inr (by assumption), ?_⟩
            simp only [Act.put, List.setIfInBounds_toArray, List.set_cons_zero, List.set_cons_succ]
            refine onlyCall 5 40 rfl rfl (by kernel_rfl) rfl (exec_call [.agg #[.int .i64 b.kind, .bool b.b, .int .i64 b.n, .string (strB b.text), .slice pk' b.keys.length ck', .slice pl' b.list.length cl'], .agg #[.int .i64 c.kind, .bool c.b, .int .i64 c.n, .string (strB c.text), .slice pk2 c.keys.length ck2, .slice pl2 c.list.length cl2]] rfl rfl Tryz.func20 (by kernel_rfl) (by kernel_rfl)) ?_
            refine (C2.out _ 1 hU rfl).mono ?_
            rintro e w' ⟨rfl, hU⟩
            refine ⟨_, rfl, .inr (by assumption), ?_⟩
            simp only [Act.put, List.setIfInBounds_toArray, List.set_cons_zero, List.set_cons_succ]
            refine onlyCall 8 43 rfl rfl (by kernel_rfl) rfl (exec_call [.agg #[.int .i64 a.kind, .bool a.b, .int .i64 a.n, .string (strB a.text), .slice pk a.keys.length ck, .slice pl a.list.length cl], .agg #[.int .i64 c.kind, .bool c.b, .int .i64 c.n, .string (strB c.text), .slice pk2 c.keys.length ck2, .slice pl2 c.list.length cl2]] rfl rfl Tryz.func20 (by kernel_rfl) (by kernel_rfl)) ?_
            refine (C3.out _ 1 hU rfl).mono ?_
            rintro e w' ⟨rfl, hU⟩
            refine ⟨_, rfl, .inr (by assumption), ?_⟩
            simp only [Act.put, List.setIfInBounds_toArray, List.set_cons_zero, List.set_cons_succ]
            refine take 9 7 (v := .int .i64 1) rfl rfl (by kernel_rfl) (by kernel_rfl) (by kernel_rfl) rfl (fun W hW => exec_assign rfl rfl) (by assumption) ?_
            simp only [Act.put, List.setIfInBounds_toArray, List.set_cons_zero, List.set_cons_succ]
            refine take 10 8 (v := .int .i64 1) rfl rfl (by kernel_rfl) (by kernel_rfl) (by kernel_rfl) rfl (fun W hW => exec_assign rfl rfl) (by assumption) ?_
            simp only [Act.put, List.setIfInBounds_toArray, List.set_cons_zero, List.set_cons_succ]
            refine take 11 9 (v := .int .i64 1) rfl rfl (by kernel_rfl) (by kernel_rfl) (by kernel_rfl) rfl (fun W hW => exec_assign rfl rfl) (by assumption) ?_
            simp only [Act.put, List.setIfInBounds_toArray, List.set_cons_zero, List.set_cons_succ]
            refine done (by kernel_rfl) ?_ _
            have HT := Lib.hid hU
            have px0 := cellOf (o := 0) hU.one rfl; have px1 := cellOf (o := 1) hU.one rfl; have px2 := cellOf (o := 2) hU.one rfl; have px3 := cellOf (o := 3) hU.one rfl; have px4 := cellOf (o := 4) hU.one rfl; have px5 := cellOf (o := 5) hU.one rfl
            have py0 := cellOf (o := 0) hU.two rfl; have py1 := cellOf (o := 1) hU.two rfl; have py2 := cellOf (o := 2) hU.two rfl; have py3 := cellOf (o := 3) hU.two rfl; have py4 := cellOf (o := 4) hU.two rfl; have py5 := cellOf (o := 5) hU.two rfl
            have pz0 := cellOf (o := 0) hU.three rfl; have pz1 := cellOf (o := 1) hU.three rfl; have pz2 := cellOf (o := 2) hU.three rfl; have pz3 := cellOf (o := 3) hU.three rfl; have pz4 := cellOf (o := 4) hU.three rfl; have pz5 := cellOf (o := 5) hU.three rfl
            clear hU
            go_wp2_with (first
              | (go_at_call 20
                 (refine (C4.out _ (-1) HT.out rfl).mono ?_
                  rintro e w5 ⟨rfl, hT1⟩
                  have px0 := cellOf (o := 0) hT1.one rfl; have px1 := cellOf (o := 1) hT1.one rfl; have px2 := cellOf (o := 2) hT1.one rfl; have px3 := cellOf (o := 3) hT1.one rfl; have px4 := cellOf (o := 4) hT1.one rfl; have px5 := cellOf (o := 5) hT1.one rfl
                  have py0 := cellOf (o := 0) hT1.two rfl; have py1 := cellOf (o := 1) hT1.two rfl; have py2 := cellOf (o := 2) hT1.two rfl; have py3 := cellOf (o := 3) hT1.two rfl; have py4 := cellOf (o := 4) hT1.two rfl; have py5 := cellOf (o := 5) hT1.two rfl
                  have pz0 := cellOf (o := 0) hT1.three rfl; have pz1 := cellOf (o := 1) hT1.three rfl; have pz2 := cellOf (o := 2) hT1.three rfl; have pz3 := cellOf (o := 3) hT1.three rfl; have pz4 := cellOf (o := 4) hT1.three rfl; have pz5 := cellOf (o := 5) hT1.three rfl
                  have HT := Lib.hid hT1
                  clear hT1 C4))
              | (go_at_call 20
                 (refine (C5.out _ HT.out).mono ?_
                  rintro e w6 ⟨rfl, hT1⟩
                  have px0 := cellOf (o := 0) hT1.one rfl; have px1 := cellOf (o := 1) hT1.one rfl; have px2 := cellOf (o := 2) hT1.one rfl; have px3 := cellOf (o := 3) hT1.one rfl; have px4 := cellOf (o := 4) hT1.one rfl; have px5 := cellOf (o := 5) hT1.one rfl
                  have py0 := cellOf (o := 0) hT1.two rfl; have py1 := cellOf (o := 1) hT1.two rfl; have py2 := cellOf (o := 2) hT1.two rfl; have py3 := cellOf (o := 3) hT1.two rfl; have py4 := cellOf (o := 4) hT1.two rfl; have py5 := cellOf (o := 5) hT1.two rfl
                  have HT := Lib.hid hT1
                  clear hT1 C5))
              | (go_at_call 21
                 (refine (C6.out _ false HT.out rfl).mono ?_
                  rintro e w7 ⟨rfl, hT1⟩
                  have HT := Lib.hid hT1
                  clear hT1))
              | (go_at_call 16
                 (refine (HW.out _ HT.out).mono ?_
                  rintro e w9 ⟨rfl, hT1⟩
                  have HT := Lib.hid hT1
                  clear hT1)))
            go_ret
            exact ⟨rfl, HT.out.below⟩
          · refine take 0 35 (v := .agg #[.int .i64 a.kind, .bool a.b, .int .i64 a.n, .string (strB a.text), .slice pk a.keys.length ck, .slice pl a.list.length cl]) rfl rfl (by kernel_rfl) (by kernel_rfl) (by kernel_rfl) rfl (fun W hW => exec_load rfl rfl (get_val hW.one)) (by assumption) ?_
            simp only [Act.put, List.setIfInBounds_toArray, List.set_cons_zero, List.set_cons_succ]
            refine take 1 36 (v := .agg #[.int .i64 b.kind, .bool b.b, .int .i64 b.n, .string (strB b.text), .slice pk' b.keys.length ck', .slice pl' b.list.length cl']) rfl rfl (by kernel_rfl) (by kernel_rfl) (by kernel_rfl) rfl (fun W hW => exec_load rfl rfl (get_val hW.two)) (by assumption) ?_
            simp only [Act.put, List.setIfInBounds_toArray, List.set_cons_zero, List.set_cons_succ]
            refine take 3 38 (v := .agg #[.int .i64 b.kind, .bool b.b, .int .i64 b.n, .string (strB b.text), .slice pk' b.keys.length ck', .slice pl' b.list.length cl']) rfl rfl (by kernel_rfl) (by kernel_rfl) (by kernel_rfl) rfl (fun W hW => exec_load rfl rfl (get_val hW.two)) (by assumption) ?_
            simp only [Act.put, List.setIfInBounds_toArray, List.set_cons_zero, List.set_cons_succ]
            refine take 4 39 (v := .agg #[.int .i64 c.kind, .bool c.b, .int .i64 c.n, .string (strB c.text), .slice pk2 c.keys.length ck2, .slice pl2 c.list.length cl2]) rfl rfl (by kernel_rfl) (by kernel_rfl) (by kernel_rfl) rfl (fun W hW => exec_load rfl rfl (get_val hW.three)) (by assumption) ?_
            simp only [Act.put, List.setIfInBounds_toArray, List.set_cons_zero, List.set_cons_succ]
            refine take 6 41 (v := .agg #[.int .i64 a.kind, .bool a.b, .int .i64 a.n, .string (strB a.text), .slice pk a.keys.length ck, .slice pl a.list.length cl]) rfl rfl (by kernel_rfl) (by kernel_rfl) (by kernel_rfl) rfl (fun W hW => exec_load rfl rfl (get_val hW.one)) (by assumption) ?_
            simp only [Act.put, List.setIfInBounds_toArray, List.set_cons_zero, List.set_cons_succ]
            refine take 7 42 (v := .agg #[.int .i64 c.kind, .bool c.b, .int .i64 c.n, .string (strB c.text), .slice pk2 c.keys.length ck2, .slice pl2 c.list.length cl2]) rfl rfl (by kernel_rfl) (by kernel_rfl) (by kernel_rfl) rfl (fun W hW => exec_load rfl rfl (get_val hW.three)) (by assumption) ?_
            simp only [Act.put, List.setIfInBounds_toArray, List.set_cons_zero, List.set_cons_succ]
            refine onlyCall 2 37 rfl rfl (by kernel_rfl) rfl (exec_call [.agg #[.int .i64 a.kind, .bool a.b, .int .i64 a.n, .string (strB a.text), .slice pk a.keys.length ck, .slice pl a.list.length cl], .agg #[.int .i64 b.kind, .bool b.b, .int .i64 b.n, .string (strB b.text), .slice pk' b.keys.length ck', .slice pl' b.list.length cl']] rfl rfl Tryz.func20 (by kernel_rfl) (by kernel_rfl)) ?_
            refine (C1.out _ 1 hU rfl).mono ?_
            rintro e w' ⟨rfl, hU⟩
            refine ⟨_, rfl, .inr (by assumption), ?_⟩
            simp only [Act.put, List.setIfInBounds_toArray, List.set_cons_zero, List.set_cons_succ]
            refine onlyCall 5 40 rfl rfl (by kernel_rfl) rfl (exec_call [.agg #[.int .i64 b.kind, .bool b.b, .int .i64 b.n, .string (strB b.text), .slice pk' b.keys.length ck', .slice pl' b.list.length cl'], .agg #[.int .i64 c.kind, .bool c.b, .int .i64 c.n, .string (strB c.text), .slice pk2 c.keys.length ck2, .slice pl2 c.list.length cl2]] rfl rfl Tryz.func20 (by kernel_rfl) (by kernel_rfl)) ?_
            refine (C2.out _ 0 hU rfl).mono ?_
            rintro e w' ⟨rfl, hU⟩
            refine ⟨_, rfl, .inr (by assumption), ?_⟩
            simp only [Act.put, List.setIfInBounds_toArray, List.set_cons_zero, List.set_cons_succ]
            refine onlyCall 8 43 rfl rfl (by kernel_rfl) rfl (exec_call [.agg #[.int .i64 a.kind, .bool a.b, .int .i64 a.n, .string (strB a.text), .slice pk a.keys.length ck, .slice pl a.list.length cl], .agg #[.int .i64 c.kind, .bool c.b, .int .i64 c.n, .string (strB c.text), .slice pk2 c.keys.length ck2, .slice pl2 c.list.length cl2]] rfl rfl Tryz.func20 (by kernel_rfl) (by kernel_rfl)) ?_
            refine (C3.out _ 1 hU rfl).mono ?_
            rintro e w' ⟨rfl, hU⟩
            refine ⟨_, rfl, .inr (by assumption), ?_⟩
            simp only [Act.put, List.setIfInBounds_toArray, List.set_cons_zero, List.set_cons_succ]
            refine take 9 7 (v := .int .i64 1) rfl rfl (by kernel_rfl) (by kernel_rfl) (by kernel_rfl) rfl (fun W hW => exec_assign rfl rfl) (by assumption) ?_
            simp only [Act.put, List.setIfInBounds_toArray, List.set_cons_zero, List.set_cons_succ]
            refine take 10 8 (v := .int .i64 0) rfl rfl (by kernel_rfl) (by kernel_rfl) (by kernel_rfl) rfl (fun W hW => exec_assign rfl rfl) (by assumption) ?_
            simp only [Act.put, List.setIfInBounds_toArray, List.set_cons_zero, List.set_cons_succ]
            refine take 11 9 (v := .int .i64 1) rfl rfl (by kernel_rfl) (by kernel_rfl) (by kernel_rfl) rfl (fun W hW => exec_assign rfl rfl) (by assumption) ?_
            simp only [Act.put, List.setIfInBounds_toArray, List.set_cons_zero, List.set_cons_succ]
            refine done (by kernel_rfl) ?_ _
            have HT := Lib.hid hU
            have px0 := cellOf (o := 0) hU.one rfl; have px1 := cellOf (o := 1) hU.one rfl; have px2 := cellOf (o := 2) hU.one rfl; have px3 := cellOf (o := 3) hU.one rfl; have px4 := cellOf (o := 4) hU.one rfl; have px5 := cellOf (o := 5) hU.one rfl
            have py0 := cellOf (o := 0) hU.two rfl; have py1 := cellOf (o := 1) hU.two rfl; have py2 := cellOf (o := 2) hU.two rfl; have py3 := cellOf (o := 3) hU.two rfl; have py4 := cellOf (o := 4) hU.two rfl; have py5 := cellOf (o := 5) hU.two rfl
            have pz0 := cellOf (o := 0) hU.three rfl; have pz1 := cellOf (o := 1) hU.three rfl; have pz2 := cellOf (o := 2) hU.three rfl; have pz3 := cellOf (o := 3) hU.three rfl; have pz4 := cellOf (o := 4) hU.three rfl; have pz5 := cellOf (o := 5) hU.three rfl
            clear hU
            go_wp2_with (first
              | (go_at_call 20
                 (refine (C4.out _ (-1) HT.out rfl).mono ?_
                  rintro e w5 ⟨rfl, hT1⟩
                  have px0 := cellOf (o := 0) hT1.one rfl; have px1 := cellOf (o := 1) hT1.one rfl; have px2 := cellOf (o := 2) hT1.one rfl; have px3 := cellOf (o := 3) hT1.one rfl; have px4 := cellOf (o := 4) hT1.one rfl; have px5 := cellOf (o := 5) hT1.one rfl
                  have py0 := cellOf (o := 0) hT1.two rfl; have py1 := cellOf (o := 1) hT1.two rfl; have py2 := cellOf (o := 2) hT1.two rfl; have py3 := cellOf (o := 3) hT1.two rfl; have py4 := cellOf (o := 4) hT1.two rfl; have py5 := cellOf (o := 5) hT1.two rfl
                  have pz0 := cellOf (o := 0) hT1.three rfl; have pz1 := cellOf (o := 1) hT1.three rfl; have pz2 := cellOf (o := 2) hT1.three rfl; have pz3 := cellOf (o := 3) hT1.three rfl; have pz4 := cellOf (o := 4) hT1.three rfl; have pz5 := cellOf (o := 5) hT1.three rfl
                  have HT := Lib.hid hT1
                  clear hT1 C4))
              | (go_at_call 20
                 (refine (C5.out _ HT.out).mono ?_
                  rintro e w6 ⟨rfl, hT1⟩
                  have px0 := cellOf (o := 0) hT1.one rfl; have px1 := cellOf (o := 1) hT1.one rfl; have px2 := cellOf (o := 2) hT1.one rfl; have px3 := cellOf (o := 3) hT1.one rfl; have px4 := cellOf (o := 4) hT1.one rfl; have px5 := cellOf (o := 5) hT1.one rfl
                  have py0 := cellOf (o := 0) hT1.two rfl; have py1 := cellOf (o := 1) hT1.two rfl; have py2 := cellOf (o := 2) hT1.two rfl; have py3 := cellOf (o := 3) hT1.two rfl; have py4 := cellOf (o := 4) hT1.two rfl; have py5 := cellOf (o := 5) hT1.two rfl
                  have HT := Lib.hid hT1
                  clear hT1 C5))
              | (go_at_call 21
                 (refine (C6.out _ false HT.out rfl).mono ?_
                  rintro e w7 ⟨rfl, hT1⟩
                  have HT := Lib.hid hT1
                  clear hT1))
              | (go_at_call 16
                 (refine (HW.out _ HT.out).mono ?_
                  rintro e w9 ⟨rfl, hT1⟩
                  have HT := Lib.hid hT1
                  clear hT1)))
            go_ret
            exact ⟨rfl, HT.out.below⟩
          · refine take 0 35 (v := .agg #[.int .i64 a.kind, .bool a.b, .int .i64 a.n, .string (strB a.text), .slice pk a.keys.length ck, .slice pl a.list.length cl]) rfl rfl (by kernel_rfl) (by kernel_rfl) (by kernel_rfl) rfl (fun W hW => exec_load rfl rfl (get_val hW.one)) (by assumption) ?_
            simp only [Act.put, List.setIfInBounds_toArray, List.set_cons_zero, List.set_cons_succ]
            refine take 1 36 (v := .agg #[.int .i64 b.kind, .bool b.b, .int .i64 b.n, .string (strB b.text), .slice pk' b.keys.length ck', .slice pl' b.list.length cl']) rfl rfl (by kernel_rfl) (by kernel_rfl) (by kernel_rfl) rfl (fun W hW => exec_load rfl rfl (get_val hW.two)) (by assumption) ?_
            simp only [Act.put, List.setIfInBounds_toArray, List.set_cons_zero, List.set_cons_succ]
            refine take 3 38 (v := .agg #[.int .i64 b.kind, .bool b.b, .int .i64 b.n, .string (strB b.text), .slice pk' b.keys.length ck', .slice pl' b.list.length cl']) rfl rfl (by kernel_rfl) (by kernel_rfl) (by kernel_rfl) rfl (fun W hW => exec_load rfl rfl (get_val hW.two)) (by assumption) ?_
            simp only [Act.put, List.setIfInBounds_toArray, List.set_cons_zero, List.set_cons_succ]
            refine take 4 39 (v := .agg #[.int .i64 c.kind, .bool c.b, .int .i64 c.n, .string (strB c.text), .slice pk2 c.keys.length ck2, .slice pl2 c.list.length cl2]) rfl rfl (by kernel_rfl) (by kernel_rfl) (by kernel_rfl) rfl (fun W hW => exec_load rfl rfl (get_val hW.three)) (by assumption) ?_
            simp only [Act.put, List.setIfInBounds_toArray, List.set_cons_zero, List.set_cons_succ]
            refine take 6 41 (v := .agg #[.int .i64 a.kind, .bool a.b, .int .i64 a.n, .string (strB a.text), .slice pk a.keys.length ck, .slice pl a.list.length cl]) rfl rfl (by kernel_rfl) (by kernel_rfl) (by kernel_rfl) rfl (fun W hW => exec_load rfl rfl (get_val hW.one)) (by assumption) ?_
            simp only [Act.put, List.setIfInBounds_toArray, List.set_cons_zero, List.set_cons_succ]
            refine take 7 42 (v := .agg #[.int .i64 c.kind, .bool c.b, .int .i64 c.n, .string (strB c.text), .slice pk2 c.keys.length ck2, .slice pl2 c.list.length cl2]) rfl rfl (by kernel_rfl) (by kernel_rfl) (by kernel_rfl) rfl (fun W hW => exec_load rfl rfl (get_val hW.three)) (by assumption) ?_
            simp only [Act.put, List.setIfInBounds_toArray, List.set_cons_zero, List.set_cons_succ]
            refine onlyCall 2 37 rfl rfl (by kernel_rfl) rfl (exec_call [.agg #[.int .i64 a.kind, .bool a.b, .int .i64 a.n, .string (strB a.text), .slice pk a.keys.length ck, .slice pl a.list.length cl], .agg #[.int .i64 b.kind, .bool b.b, .int .i64 b.n, .string (strB b.text), .slice pk' b.keys.length ck', .slice pl' b.list.length cl']] rfl rfl Tryz.func20 (by kernel_rfl) (by kernel_rfl)) ?_
            refine (C1.out _ 1 hU rfl).mono ?_
            rintro e w' ⟨rfl, hU⟩
            refine ⟨_, rfl, .inr (by assumption), ?_⟩
            simp only [Act.put, List.setIfInBounds_toArray, List.set_cons_zero, List.set_cons_succ]
            refine onlyCall 5 40 rfl rfl (by kernel_rfl) rfl (exec_call [.agg #[.int .i64 b.kind, .bool b.b, .int .i64 b.n, .string (strB b.text), .slice pk' b.keys.length ck', .slice pl' b.list.length cl'], .agg #[.int .i64 c.kind, .bool c.b, .int .i64 c.n, .string (strB c.text), .slice pk2 c.keys.length ck2, .slice pl2 c.list.length cl2]] rfl rfl Tryz.func20 (by kernel_rfl) (by kernel_rfl)) ?_
            refine (C2.out _ (-1) hU rfl).mono ?_
            rintro e w' ⟨rfl, hU⟩
            refine ⟨_, rfl, .inr (by assumption), ?_⟩
            simp only [Act.put, List.setIfInBounds_toArray, List.set_cons_zero, List.set_cons_succ]
            refine onlyCall 8 43 rfl rfl (by kernel_rfl) rfl (exec_call [.agg #[.int .i64 a.kind, .bool a.b, .int .i64 a.n, .string (strB a.text), .slice pk a.keys.length ck, .slice pl a.list.length cl], .agg #[.int .i64 c.kind, .bool c.b, .int .i64 c.n, .string (strB c.text), .slice pk2 c.keys.length ck2, .slice pl2 c.list.length cl2]] rfl rfl Tryz.func20 (by kernel_rfl) (by kernel_rfl)) ?_
            refine (C3.out _ (-1) hU rfl).mono ?_
            rintro e w' ⟨rfl, hU⟩
            refine ⟨_, rfl, .inr (by assumption), ?_⟩
            simp only [Act.put, List.setIfInBounds_toArray, List.set_cons_zero, List.set_cons_succ]
            refine take 9 7 (v := .int .i64 1) rfl rfl (by kernel_rfl) (by kernel_rfl) (by kernel_rfl) rfl (fun W hW => exec_assign rfl rfl) (by assumption) ?_
            simp only [Act.put, List.setIfInBounds_toArray, List.set_cons_zero, List.set_cons_succ]
            refine take 10 8 (v := .int .i64 (-1)) rfl rfl (by kernel_rfl) (by kernel_rfl) (by kernel_rfl) rfl (fun W hW => exec_assign rfl rfl) (by assumption) ?_
            simp only [Act.put, List.setIfInBounds_toArray, List.set_cons_zero, List.set_cons_succ]
            refine take 11 9 (v := .int .i64 (-1)) rfl rfl (by kernel_rfl) (by kernel_rfl) (by kernel_rfl) rfl (fun W hW => exec_assign rfl rfl) (by assumption) ?_
            simp only [Act.put, List.setIfInBounds_toArray, List.set_cons_zero, List.set_cons_succ]
            refine done (by kernel_rfl) ?_ _
            have HT := Lib.hid hU
            have px0 := cellOf (o := 0) hU.one rfl; have px1 := cellOf (o := 1) hU.one rfl; have px2 := cellOf (o := 2) hU.one rfl; have px3 := cellOf (o := 3) hU.one rfl; have px4 := cellOf (o := 4) hU.one rfl; have px5 := cellOf (o := 5) hU.one rfl
            have py0 := cellOf (o := 0) hU.two rfl; have py1 := cellOf (o := 1) hU.two rfl; have py2 := cellOf (o := 2) hU.two rfl; have py3 := cellOf (o := 3) hU.two rfl; have py4 := cellOf (o := 4) hU.two rfl; have py5 := cellOf (o := 5) hU.two rfl
            have pz0 := cellOf (o := 0) hU.three rfl; have pz1 := cellOf (o := 1) hU.three rfl; have pz2 := cellOf (o := 2) hU.three rfl; have pz3 := cellOf (o := 3) hU.three rfl; have pz4 := cellOf (o := 4) hU.three rfl; have pz5 := cellOf (o := 5) hU.three rfl
            clear hU
            go_wp2_with (first
              | (go_at_call 20
                 (refine (C4.out _ (-1) HT.out rfl).mono ?_
                  rintro e w5 ⟨rfl, hT1⟩
                  have px0 := cellOf (o := 0) hT1.one rfl; have px1 := cellOf (o := 1) hT1.one rfl; have px2 := cellOf (o := 2) hT1.one rfl; have px3 := cellOf (o := 3) hT1.one rfl; have px4 := cellOf (o := 4) hT1.one rfl; have px5 := cellOf (o := 5) hT1.one rfl
                  have py0 := cellOf (o := 0) hT1.two rfl; have py1 := cellOf (o := 1) hT1.two rfl; have py2 := cellOf (o := 2) hT1.two rfl; have py3 := cellOf (o := 3) hT1.two rfl; have py4 := cellOf (o := 4) hT1.two rfl; have py5 := cellOf (o := 5) hT1.two rfl
                  have pz0 := cellOf (o := 0) hT1.three rfl; have pz1 := cellOf (o := 1) hT1.three rfl; have pz2 := cellOf (o := 2) hT1.three rfl; have pz3 := cellOf (o := 3) hT1.three rfl; have pz4 := cellOf (o := 4) hT1.three rfl; have pz5 := cellOf (o := 5) hT1.three rfl
                  have HT := Lib.hid hT1
                  clear hT1 C4))
              | (go_at_call 20
                 (refine (C5.out _ HT.out).mono ?_
                  rintro e w6 ⟨rfl, hT1⟩
                  have px0 := cellOf (o := 0) hT1.one rfl; have px1 := cellOf (o := 1) hT1.one rfl; have px2 := cellOf (o := 2) hT1.one rfl; have px3 := cellOf (o := 3) hT1.one rfl; have px4 := cellOf (o := 4) hT1.one rfl; have px5 := cellOf (o := 5) hT1.one rfl
                  have py0 := cellOf (o := 0) hT1.two rfl; have py1 := cellOf (o := 1) hT1.two rfl; have py2 := cellOf (o := 2) hT1.two rfl; have py3 := cellOf (o := 3) hT1.two rfl; have py4 := cellOf (o := 4) hT1.two rfl; have py5 := cellOf (o := 5) hT1.two rfl
                  have HT := Lib.hid hT1
                  clear hT1 C5))
              | (go_at_call 21
                 (refine (C6.out _ false HT.out rfl).mono ?_
                  rintro e w7 ⟨rfl, hT1⟩
                  have HT := Lib.hid hT1
                  clear hT1))
              | (go_at_call 16
                 (refine (HW.out _ HT.out).mono ?_
                  rintro e w9 ⟨rfl, hT1⟩
                  have HT := Lib.hid hT1
                  clear hT1)))
            go_ret
            exact ⟨rfl, HT.out.below⟩
          · refine take 0 35 (v := .agg #[.int .i64 a.kind, .bool a.b, .int .i64 a.n, .string (strB a.text), .slice pk a.keys.length ck, .slice pl a.list.length cl]) rfl rfl (by kernel_rfl) (by kernel_rfl) (by kernel_rfl) rfl (fun W hW => exec_load rfl rfl (get_val hW.one)) (by assumption) ?_
            simp only [Act.put, List.setIfInBounds_toArray, List.set_cons_zero, List.set_cons_succ]
            refine take 1 36 (v := .agg #[.int .i64 b.kind, .bool b.b, .int .i64 b.n, .string (strB b.text), .slice pk' b.keys.length ck', .slice pl' b.list.length cl']) rfl rfl (by kernel_rfl) (by kernel_rfl) (by kernel_rfl) rfl (fun W hW => exec_load rfl rfl (get_val hW.two)) (by assumption) ?_
            simp only [Act.put, List.setIfInBounds_toArray, List.set_cons_zero, List.set_cons_succ]
            refine take 3 38 (v := .agg #[.int .i64 b.kind, .bool b.b, .int .i64 b.n, .string (strB b.text), .slice pk' b.keys.length ck', .slice pl' b.list.length cl']) rfl rfl (by kernel_rfl) (by kernel_rfl) (by kernel_rfl) rfl (fun W hW => exec_load rfl rfl (get_val hW.two)) (by assumption) ?_
            simp only [Act.put, List.setIfInBounds_toArray, List.set_cons_zero, List.set_cons_succ]
            refine take 4 39 (v := .agg #[.int .i64 c.kind, .bool c.b, .int .i64 c.n, .string (strB c.text), .slice pk2 c.keys.length ck2, .slice pl2 c.list.length cl2]) rfl rfl (by kernel_rfl) (by kernel_rfl) (by kernel_rfl) rfl (fun W hW => exec_load rfl rfl (get_val hW.three)) (by assumption) ?_
            simp only [Act.put, List.setIfInBounds_toArray, List.set_cons_zero, List.set_cons_succ]
            refine take 6 41 (v := .agg #[.int .i64 a.kind, .bool a.b, .int .i64 a.n, .string (strB a.text), .slice pk a.keys.length ck, .slice pl a.list.length cl]) rfl rfl (by kernel_rfl) (by kernel_rfl) (by kernel_rfl) rfl (fun W hW => exec_load rfl rfl (get_val hW.one)) (by assumption) ?_
            simp only [Act.put, List.setIfInBounds_toArray, List.set_cons_zero, List.set_cons_succ]
            refine take 7 42 (v := .agg #[.int .i64 c.kind, .bool c.b, .int .i64 c.n, .string (strB c.text), .slice pk2 c.keys.length ck2, .slice pl2 c.list.length cl2]) rfl rfl (by kernel_rfl) (by kernel_rfl) (by kernel_rfl) rfl (fun W hW => exec_load rfl rfl (get_val hW.three)) (by assumption) ?_
            simp only [Act.put, List.setIfInBounds_toArray, List.set_cons_zero, List.set_cons_succ]
            refine onlyCall 2 37 rfl rfl (by kernel_rfl) rfl (exec_call [.agg #[.int .i64 a.kind, .bool a.b, .int .i64 a.n, .string (strB a.text), .slice pk a.keys.length ck, .slice pl a.list.length cl], .agg #[.int .i64 b.kind, .bool b.b, .int .i64 b.n, .string (strB b.text), .slice pk' b.keys.length ck', .slice pl' b.list.length cl']] rfl rfl Tryz.func20 (by kernel_rfl) (by kernel_rfl)) ?_
            refine (C1.out _ 1 hU rfl).mono ?_
            rintro e w' ⟨rfl, hU⟩
            refine ⟨_, rfl, .inr (by assumption), ?_⟩
            simp only [Act.put, List.setIfInBounds_toArray, List.set_cons_zero, List.set_cons_succ]
            refine onlyCall 5 40 rfl rfl (by kernel_rfl) rfl (exec_call [.agg #[.int .i64 b.kind, .bool b.b, .int .i64 b.n, .string (strB b.text), .slice pk' b.keys.length ck', .slice pl' b.list.length cl'], .agg #[.int .i64 c.kind, .bool c.b, .int .i64 c.n, .string (strB c.text), .slice pk2 c.keys.length ck2, .slice pl2 c.list.length cl2]] rfl rfl Tryz.func20 (by kernel_rfl) (by kernel_rfl)) ?_
            refine (C2.out _ (-1) hU rfl).mono ?_
            rintro e w' ⟨rfl, hU⟩
            refine ⟨_, rfl, .inr (by assumption), ?_⟩
            simp only [Act.put, List.setIfInBounds_toArray, List.set_cons_zero, List.set_cons_succ]
            refine onlyCall 8 43 rfl rfl (by kernel_rfl) rfl (exec_call [.agg #[.int .i64 a.kind, .bool a.b, .int .i64 a.n, .string (strB a.text), .slice pk a.keys.length ck, .slice pl a.list.length cl], .agg #[.int .i64 c.kind, .bool c.b, .int .i64 c.n, .string (strB c.text), .slice pk2 c.keys.length ck2, .slice pl2 c.list.length cl2]] rfl rfl Tryz.func20 (by kernel_rfl) (by kernel_rfl)) ?_
            refine (C3.out _ 0 hU rfl).mono ?_
            rintro e w' ⟨rfl, hU⟩
            refine ⟨_, rfl, .inr (by assumption), ?_⟩
            simp only [Act.put, List.setIfInBounds_toArray, List.set_cons_zero, List.set_cons_succ]
            refine take 9 7 (v := .int .i64 1) rfl rfl (by kernel_rfl) (by kernel_rfl) (by kernel_rfl) rfl (fun W hW => exec_assign rfl rfl) (by assumption) ?_
            simp only [Act.put, List.setIfInBounds_toArray, List.set_cons_zero, List.set_cons_succ]
            refine take 10 8 (v := .int .i64 (-1)) rfl rfl (by kernel_rfl) (by kernel_rfl) (by kernel_rfl) rfl (fun W hW => exec_assign rfl rfl) (by assumption) ?_
            simp only [Act.put, List.setIfInBounds_toArray, List.set_cons_zero, List.set_cons_succ]
            refine take 11 9 (v := .int .i64 0) rfl rfl (by kernel_rfl) (by kernel_rfl) (by kernel_rfl) rfl (fun W hW => exec_assign rfl rfl) (by assumption) ?_
            simp only [Act.put, List.setIfInBounds_toArray, List.set_cons_zero, List.set_cons_succ]
            refine done (by kernel_rfl) ?_ _
            have HT := Lib.hid hU
            have px0 := cellOf (o := 0) hU.one rfl; have px1 := cellOf (o := 1) hU.one rfl; have px2 := cellOf (o := 2) hU.one rfl; have px3 := cellOf (o := 3) hU.one rfl; have px4 := cellOf (o := 4) hU.one rfl; have px5 := cellOf (o := 5) hU.one rfl
            have py0 := cellOf (o := 0) hU.two rfl; have py1 := cellOf (o := 1) hU.two rfl; have py2 := cellOf (o := 2) hU.two rfl; have py3 := cellOf (o := 3) hU.two rfl; have py4 := cellOf (o := 4) hU.two rfl; have py5 := cellOf (o := 5) hU.two rfl
            have pz0 := cellOf (o := 0) hU.three rfl; have pz1 := cellOf (o := 1) hU.three rfl; have pz2 := cellOf (o := 2) hU.three rfl; have pz3 := cellOf (o := 3) hU.three rfl; have pz4 := cellOf (o := 4) hU.three rfl; have pz5 := cellOf (o := 5) hU.three rfl
            clear hU
            go_wp2_with (first
              | (go_at_call 20
                 (refine (C4.out _ (-1) HT.out rfl).mono ?_
                  rintro e w5 ⟨rfl, hT1⟩
                  have px0 := cellOf (o := 0) hT1.one rfl; have px1 := cellOf (o := 1) hT1.one rfl; have px2 := cellOf (o := 2) hT1.one rfl; have px3 := cellOf (o := 3) hT1.one rfl; have px4 := cellOf (o := 4) hT1.one rfl; have px5 := cellOf (o := 5) hT1.one rfl
                  have py0 := cellOf (o := 0) hT1.two rfl; have py1 := cellOf (o := 1) hT1.two rfl; have py2 := cellOf (o := 2) hT1.two rfl; have py3 := cellOf (o := 3) hT1.two rfl; have py4 := cellOf (o := 4) hT1.two rfl; have py5 := cellOf (o := 5) hT1.two rfl
                  have pz0 := cellOf (o := 0) hT1.three rfl; have pz1 := cellOf (o := 1) hT1.three rfl; have pz2 := cellOf (o := 2) hT1.three rfl; have pz3 := cellOf (o := 3) hT1.three rfl; have pz4 := cellOf (o := 4) hT1.three rfl; have pz5 := cellOf (o := 5) hT1.three rfl
                  have HT := Lib.hid hT1
                  clear hT1 C4))
              | (go_at_call 20
                 (refine (C5.out _ HT.out).mono ?_
                  rintro e w6 ⟨rfl, hT1⟩
                  have px0 := cellOf (o := 0) hT1.one rfl; have px1 := cellOf (o := 1) hT1.one rfl; have px2 := cellOf (o := 2) hT1.one rfl; have px3 := cellOf (o := 3) hT1.one rfl; have px4 := cellOf (o := 4) hT1.one rfl; have px5 := cellOf (o := 5) hT1.one rfl
                  have py0 := cellOf (o := 0) hT1.two rfl; have py1 := cellOf (o := 1) hT1.two rfl; have py2 := cellOf (o := 2) hT1.two rfl; have py3 := cellOf (o := 3) hT1.two rfl; have py4 := cellOf (o := 4) hT1.two rfl; have py5 := cellOf (o := 5) hT1.two rfl
                  have HT := Lib.hid hT1
                  clear hT1 C5))
              | (go_at_call 21
                 (refine (C6.out _ false HT.out rfl).mono ?_
                  rintro e w7 ⟨rfl, hT1⟩
                  have HT := Lib.hid hT1
                  clear hT1))
              | (go_at_call 16
                 (refine (HW.out _ HT.out).mono ?_
                  rintro e w9 ⟨rfl, hT1⟩
                  have HT := Lib.hid hT1
                  clear hT1)))
            go_ret
            exact ⟨rfl, HT.out.below⟩
          · refine take 0 35 (v := .agg #[.int .i64 a.kind, .bool a.b, .int .i64 a.n, .string (strB a.text), .slice pk a.keys.length ck, .slice pl a.list.length cl]) rfl rfl (by kernel_rfl) (by kernel_rfl) (by kernel_rfl) rfl (fun W hW => exec_load rfl rfl (get_val hW.one)) (by assumption) ?_
            simp only [Act.put, List.setIfInBounds_toArray, List.set_cons_zero, List.set_cons_succ]
            refine take 1 36 (v := .agg #[.int .i64 b.kind, .bool b.b, .int .i64 b.n, .string (strB b.text), .slice pk' b.keys.length ck', .slice pl' b.list.length cl']) rfl rfl (by kernel_rfl) (by kernel_rfl) (by kernel_rfl) rfl (fun W hW => exec_load rfl rfl (get_val hW.two)) (by assumption) ?_
            simp only [Act.put, List.setIfInBounds_toArray, List.set_cons_zero, List.set_cons_succ]
            refine take 3 38 (v := .agg #[.int .i64 b.kind, .bool b.b, .int .i64 b.n, .string (strB b.text), .slice pk' b.keys.length ck', .slice pl' b.list.length cl']) rfl rfl (by kernel_rfl) (by kernel_rfl) (by kernel_rfl) rfl (fun W hW => exec_load rfl rfl (get_val hW.two)) (by assumption) ?_
            simp only [Act.put, List.setIfInBounds_toArray, List.set_cons_zero, List.set_cons_succ]
            refine take 4 39 (v := .agg #[.int .i64 c.kind, .bool c.b, .int .i64 c.n, .string (strB c.text), .slice pk2 c.keys.length ck2, .slice pl2 c.list.length cl2]) rfl rfl (by kernel_rfl) (by kernel_rfl) (by kernel_rfl) rfl (fun W hW => exec_load rfl rfl (get_val hW.three)) (by assumption) ?_
            simp only [Act.put, List.setIfInBounds_toArray, List.set_cons_zero, List.set_cons_succ]
            refine take 6 41 (v := .agg #[.int .i64 a.kind, .bool a.b, .int .i64 a.n, .string (strB a.text), .slice pk a.keys.length ck, .slice pl a.list.length cl]) rfl rfl (by kernel_rfl) (by kernel_rfl) (by kernel_rfl) rfl (fun W hW => exec_load rfl rfl (get_val hW.one)) (by assumption) ?_
            simp only [Act.put, List.setIfInBounds_toArray, List.set_cons_zero, List.set_cons_succ]
            refine take 7 42 (v := .agg #[.int .i64 c.kind, .bool c.b, .int .i64 c.n, .string (strB c.text), .slice pk2 c.keys.length ck2, .slice pl2 c.list.length cl2]) rfl rfl (by kernel_rfl) (by kernel_rfl) (by kernel_rfl) rfl (fun W hW => exec_load rfl rfl (get_val hW.three)) (by assumption) ?_
            simp only [Act.put, List.setIfInBounds_toArray, List.set_cons_zero, List.set_cons_succ]
            refine onlyCall 2 37 rfl rfl (by kernel_rfl) rfl (exec_call [.agg #[.int .i64 a.kind, .bool a.b, .int .i64 a.n, .string (strB a.text), .slice pk a.keys.length ck, .slice pl a.list.length cl], .agg #[.int .i64 b.kind, .bool b.b, .int .i64 b.n, .string (strB b.text), .slice pk' b.keys.length ck', .slice pl' b.list.length cl']] rfl rfl Tryz.func20 (by kernel_rfl) (by kernel_rfl)) ?_
            refine (C1.out _ 1 hU rfl).mono ?_
            rintro e w' ⟨rfl, hU⟩
            refine ⟨_, rfl, .inr (by assumption), ?_⟩
            simp only [Act.put, List.setIfInBounds_toArray, List.set_cons_zero, List.set_cons_succ]
            refine onlyCall 5 40 rfl rfl (by kernel_rfl) rfl (exec_call [.agg #[.int .i64 b.kind, .bool b.b, .int .i64 b.n, .string (strB b.text), .slice pk' b.keys.length ck', .slice pl' b.list.length cl'], .agg #[.int .i64 c.kind, .bool c.b, .int .i64 c.n, .string (strB c.text), .slice pk2 c.keys.length ck2, .slice pl2 c.list.length cl2]] rfl rfl Tryz.func20 (by kernel_rfl) (by kernel_rfl)) ?_
            refine (C2.out _ (-1) hU rfl).mono ?_
            rintro e w' ⟨rfl, hU⟩
            refine ⟨_, rfl, .inr (by assumption), ?_⟩
            simp only [Act.put, List.setIfInBounds_toArray, List.set_cons_zero, List.set_cons_succ]
            refine onlyCall 8 43 rfl rfl (by kernel_rfl) rfl (exec_call [.agg #[.int .i64 a.kind, .bool a.b, .int .i64 a.n, .string (strB a.text), .slice pk a.keys.length ck, .slice pl a.list.length cl], .agg #[.int .i64 c.kind, .bool c.b, .int .i64 c.n, .string (strB c.text), .slice pk2 c.keys.length ck2, .slice pl2 c.list.length cl2]] rfl rfl Tryz.func20 (by kernel_rfl) (by kernel_rfl)) ?_
            refine (C3.out _ 1 hU rfl).mono ?_
            rintro e w' ⟨rfl, hU⟩
            refine ⟨_, rfl, .inr (by assumption), ?_⟩
            simp only [Act.put, List.setIfInBounds_toArray, List.set_cons_zero, List.set_cons_succ]
            refine take 9 7 (v := .int .i64 1) rfl rfl (by kernel_rfl) (by kernel_rfl) (by kernel_rfl) rfl (fun W hW => exec_assign rfl rfl) (by assumption) ?_
            simp only [Act.put, List.setIfInBounds_toArray, List.set_cons_zero, List.set_cons_succ]
            refine take 10 8 (v := .int .i64 (-1)) rfl rfl (by kernel_rfl) (by kernel_rfl) (by kernel_rfl) rfl (fun W hW => exec_assign rfl rfl) (by assumption) ?_
            simp only [Act.put, List.setIfInBounds_toArray, List.set_cons_zero, List.set_cons_succ]
            refine take 11 9 (v := .int .i64 1) rfl rfl (by kernel_rfl) (by kernel_rfl) (by kernel_rfl) rfl (fun W hW => exec_assign rfl rfl) (by assumption) ?_
            simp only [Act.put, List.setIfInBounds_toArray, List.set_cons_zero, List.set_cons_succ]
            refine done (by kernel_rfl) ?_ _
            have HT := Lib.hid hU
            have px0 := cellOf (o := 0) hU.one rfl; have px1 := cellOf (o := 1) hU.one rfl; have px2 := cellOf (o := 2) hU.one rfl; have px3 := cellOf (o := 3) hU.one rfl; have px4 := cellOf (o := 4) hU.one rfl; have px5 := cellOf (o := 5) hU.one rfl
            have py0 := cellOf (o := 0) hU.two rfl; have py1 := cellOf (o := 1) hU.two rfl; have py2 := cellOf (o := 2) hU.two rfl; have py3 := cellOf (o := 3) hU.two rfl; have py4 := cellOf (o := 4) hU.two rfl; have py5 := cellOf (o := 5) hU.two rfl
            have pz0 := cellOf (o := 0) hU.three rfl; have pz1 := cellOf (o := 1) hU.three rfl; have pz2 := cellOf (o := 2) hU.three rfl; have pz3 := cellOf (o := 3) hU.three rfl; have pz4 := cellOf (o := 4) hU.three rfl; have pz5 := cellOf (o := 5) hU.three rfl
            clear hU
            go_wp2_with (first
              | (go_at_call 20
                 (refine (C4.out _ (-1) HT.out rfl).mono ?_
                  rintro e w5 ⟨rfl, hT1⟩
                  have px0 := cellOf (o := 0) hT1.one rfl; have px1 := cellOf (o := 1) hT1.one rfl; have px2 := cellOf (o := 2) hT1.one rfl; have px3 := cellOf (o := 3) hT1.one rfl; have px4 := cellOf (o := 4) hT1.one rfl; have px5 := cellOf (o := 5) hT1.one rfl
                  have py0 := cellOf (o := 0) hT1.two rfl; have py1 := cellOf (o := 1) hT1.two rfl; have py2 := cellOf (o := 2) hT1.two rfl; have py3 := cellOf (o := 3) hT1.two rfl; have py4 := cellOf (o := 4) hT1.two rfl; have py5 := cellOf (o := 5) hT1.two rfl
                  have pz0 := cellOf (o := 0) hT1.three rfl; have pz1 := cellOf (o := 1) hT1.three rfl; have pz2 := cellOf (o := 2) hT1.three rfl; have pz3 := cellOf (o := 3) hT1.three rfl; have pz4 := cellOf (o := 4) hT1.three rfl; have pz5 := cellOf (o := 5) hT1.three rfl
                  have HT := Lib.hid hT1
                  clear hT1 C4))
              | (go_at_call 20
                 (refine (C5.out _ HT.out).mono ?_
                  rintro e w6 ⟨rfl, hT1⟩
                  have px0 := cellOf (o := 0) hT1.one rfl; have px1 := cellOf (o := 1) hT1.one rfl; have px2 := cellOf (o := 2) hT1.one rfl; have px3 := cellOf (o := 3) hT1.one rfl; have px4 := cellOf (o := 4) hT1.one rfl; have px5 := cellOf (o := 5) hT1.one rfl
                  have py0 := cellOf (o := 0) hT1.two rfl; have py1 := cellOf (o := 1) hT1.two rfl; have py2 := cellOf (o := 2) hT1.two rfl; have py3 := cellOf (o := 3) hT1.two rfl; have py4 := cellOf (o := 4) hT1.two rfl; have py5 := cellOf (o := 5) hT1.two rfl
                  have HT := Lib.hid hT1
                  clear hT1 C5))
              | (go_at_call 21
                 (refine (C6.out _ false HT.out rfl).mono ?_
                  rintro e w7 ⟨rfl, hT1⟩
                  have HT := Lib.hid hT1
                  clear hT1))
              | (go_at_call 16
                 (refine (HW.out _ HT.out).mono ?_
                  rintro e w9 ⟨rfl, hT1⟩
                  have HT := Lib.hid hT1
                  clear hT1)))
            go_ret
            exact ⟨rfl, HT.out.below⟩
        · have hne : (checkV Lib.validD c == 0) = false := by rw [beq_eq_false_iff_ne]; exact kc
          rw [ka] at HCA
          rw [kb] at HCB
          generalize checkV Lib.validD c = cv at *
          clear hE ha hb hc hT hts hs ka kb HR
          go_enter Tryz.func7, Tryz.ntmps7
          go_wp2_with (first
            | (go_at_call 15
               (
                 refine HSM.out.mono ?_
                 rintro e w1 ⟨rfl, hT1⟩
                 have px0 := cellOf (o := 0) hT1.one rfl; have px1 := cellOf (o := 1) hT1.one rfl; have px2 := cellOf (o := 2) hT1.one rfl; have px3 := cellOf (o := 3) hT1.one rfl; have px4 := cellOf (o := 4) hT1.one rfl; have px5 := cellOf (o := 5) hT1.one rfl
                 have py0 := cellOf (o := 0) hT1.two rfl; have py1 := cellOf (o := 1) hT1.two rfl; have py2 := cellOf (o := 2) hT1.two rfl; have py3 := cellOf (o := 3) hT1.two rfl; have py4 := cellOf (o := 4) hT1.two rfl; have py5 := cellOf (o := 5) hT1.two rfl
                 have pz0 := cellOf (o := 0) hT1.three rfl; have pz1 := cellOf (o := 1) hT1.three rfl; have pz2 := cellOf (o := 2) hT1.three rfl; have pz3 := cellOf (o := 3) hT1.three rfl; have pz4 := cellOf (o := 4) hT1.three rfl; have pz5 := cellOf (o := 5) hT1.three rfl
                 have HT := Lib.hid hT1
                 clear hT1))
            | (go_at_call 45
               (
                refine (HCA.out _ HT.out).mono ?_
                rintro e w2 ⟨rfl, hT1⟩
                have px0 := cellOf (o := 0) hT1.one rfl; have px1 := cellOf (o := 1) hT1.one rfl; have px2 := cellOf (o := 2) hT1.one rfl; have px3 := cellOf (o := 3) hT1.one rfl; have px4 := cellOf (o := 4) hT1.one rfl; have px5 := cellOf (o := 5) hT1.one rfl
                have py0 := cellOf (o := 0) hT1.two rfl; have py1 := cellOf (o := 1) hT1.two rfl; have py2 := cellOf (o := 2) hT1.two rfl; have py3 := cellOf (o := 3) hT1.two rfl; have py4 := cellOf (o := 4) hT1.two rfl; have py5 := cellOf (o := 5) hT1.two rfl
                have pz0 := cellOf (o := 0) hT1.three rfl; have pz1 := cellOf (o := 1) hT1.three rfl; have pz2 := cellOf (o := 2) hT1.three rfl; have pz3 := cellOf (o := 3) hT1.three rfl; have pz4 := cellOf (o := 4) hT1.three rfl; have pz5 := cellOf (o := 5) hT1.three rfl
                have HT := Lib.hid hT1
                clear hT1 HCA))
            | (go_at_call 45
               (
                refine (HCB.out _ HT.out).mono ?_
                rintro e w3 ⟨rfl, hT1⟩
                have px0 := cellOf (o := 0) hT1.one rfl; have px1 := cellOf (o := 1) hT1.one rfl; have px2 := cellOf (o := 2) hT1.one rfl; have px3 := cellOf (o := 3) hT1.one rfl; have px4 := cellOf (o := 4) hT1.one rfl; have px5 := cellOf (o := 5) hT1.one rfl
                have py0 := cellOf (o := 0) hT1.two rfl; have py1 := cellOf (o := 1) hT1.two rfl; have py2 := cellOf (o := 2) hT1.two rfl; have py3 := cellOf (o := 3) hT1.two rfl; have py4 := cellOf (o := 4) hT1.two rfl; have py5 := cellOf (o := 5) hT1.two rfl
                have pz0 := cellOf (o := 0) hT1.three rfl; have pz1 := cellOf (o := 1) hT1.three rfl; have pz2 := cellOf (o := 2) hT1.three rfl; have pz3 := cellOf (o := 3) hT1.three rfl; have pz4 := cellOf (o := 4) hT1.three rfl; have pz5 := cellOf (o := 5) hT1.three rfl
                have HT := Lib.hid hT1
                clear hT1 HCB))
            | (go_at_call 45
               (
                refine (HCC.out _ HT.out).mono ?_
                rintro e w4 ⟨rfl, hT1⟩
                have px0 := cellOf (o := 0) hT1.one rfl; have px1 := cellOf (o := 1) hT1.one rfl; have px2 := cellOf (o := 2) hT1.one rfl; have px3 := cellOf (o := 3) hT1.one rfl; have px4 := cellOf (o := 4) hT1.one rfl; have px5 := cellOf (o := 5) hT1.one rfl
                have py0 := cellOf (o := 0) hT1.two rfl; have py1 := cellOf (o := 1) hT1.two rfl; have py2 := cellOf (o := 2) hT1.two rfl; have py3 := cellOf (o := 3) hT1.two rfl; have py4 := cellOf (o := 4) hT1.two rfl; have py5 := cellOf (o := 5) hT1.two rfl
                have pz0 := cellOf (o := 0) hT1.three rfl; have pz1 := cellOf (o := 1) hT1.three rfl; have pz2 := cellOf (o := 2) hT1.three rfl; have pz3 := cellOf (o := 3) hT1.three rfl; have pz4 := cellOf (o := 4) hT1.three rfl; have pz5 := cellOf (o := 5) hT1.three rfl
                have HT := Lib.hid hT1
                clear hT1 HCC))
            | (go_at_call 33; refine (num_any _ _).mono ?_; rintro e w' ⟨rfl, rfl⟩)
            | (go_at_call 16
               (refine (HW.out _ HT.out).mono ?_
                rintro e w9 ⟨rfl, hT1⟩
                have HT := Lib.hid hT1
                clear hT1)))
          go_ret
          exact ⟨rfl, HT.out.below⟩
      · have hne : (checkV Lib.validD b == 0) = false := by rw [beq_eq_false_iff_ne]; exact kb
        rw [ka] at HCA
        generalize checkV Lib.validD b = cv at *
        clear hE ha hb hc hT hts hs ka HR HCC
        go_enter Tryz.func7, Tryz.ntmps7
        go_wp2_with (first
          | (go_at_call 15
             (
               refine HSM.out.mono ?_
               rintro e w1 ⟨rfl, hT1⟩
               have px0 := cellOf (o := 0) hT1.one rfl; have px1 := cellOf (o := 1) hT1.one rfl; have px2 := cellOf (o := 2) hT1.one rfl; have px3 := cellOf (o := 3) hT1.one rfl; have px4 := cellOf (o := 4) hT1.one rfl; have px5 := cellOf (o := 5) hT1.one rfl
               have py0 := cellOf (o := 0) hT1.two rfl; have py1 := cellOf (o := 1) hT1.two rfl; have py2 := cellOf (o := 2) hT1.two rfl; have py3 := cellOf (o := 3) hT1.two rfl; have py4 := cellOf (o := 4) hT1.two rfl; have py5 := cellOf (o := 5) hT1.two rfl
               have pz0 := cellOf (o := 0) hT1.three rfl; have pz1 := cellOf (o := 1) hT1.three rfl; have pz2 := cellOf (o := 2) hT1.three rfl; have pz3 := cellOf (o := 3) hT1.three rfl; have pz4 := cellOf (o := 4) hT1.three rfl; have pz5 := cellOf (o := 5) hT1.three rfl
               have HT := Lib.hid hT1
               clear hT1))
          | (go_at_call 45
             (
              refine (HCA.out _ HT.out).mono ?_
              rintro e w2 ⟨rfl, hT1⟩
              have px0 := cellOf (o := 0) hT1.one rfl; have px1 := cellOf (o := 1) hT1.one rfl; have px2 := cellOf (o := 2) hT1.one rfl; have px3 := cellOf (o := 3) hT1.one rfl; have px4 := cellOf (o := 4) hT1.one rfl; have px5 := cellOf (o := 5) hT1.one rfl
              have py0 := cellOf (o := 0) hT1.two rfl; have py1 := cellOf (o := 1) hT1.two rfl; have py2 := cellOf (o := 2) hT1.two rfl; have py3 := cellOf (o := 3) hT1.two rfl; have py4 := cellOf (o := 4) hT1.two rfl; have py5 := cellOf (o := 5) hT1.two rfl
              have pz0 := cellOf (o := 0) hT1.three rfl; have pz1 := cellOf (o := 1) hT1.three rfl; have pz2 := cellOf (o := 2) hT1.three rfl; have pz3 := cellOf (o := 3) hT1.three rfl; have pz4 := cellOf (o := 4) hT1.three rfl; have pz5 := cellOf (o := 5) hT1.three rfl
              have HT := Lib.hid hT1
              clear hT1 HCA))
          | (go_at_call 45
             (
              refine (HCB.out _ HT.out).mono ?_
              rintro e w3 ⟨rfl, hT1⟩
              have px0 := cellOf (o := 0) hT1.one rfl; have px1 := cellOf (o := 1) hT1.one rfl; have px2 := cellOf (o := 2) hT1.one rfl; have px3 := cellOf (o := 3) hT1.one rfl; have px4 := cellOf (o := 4) hT1.one rfl; have px5 := cellOf (o := 5) hT1.one rfl
              have py0 := cellOf (o := 0) hT1.two rfl; have py1 := cellOf (o := 1) hT1.two rfl; have py2 := cellOf (o := 2) hT1.two rfl; have py3 := cellOf (o := 3) hT1.two rfl; have py4 := cellOf (o := 4) hT1.two rfl; have py5 := cellOf (o := 5) hT1.two rfl
              have pz0 := cellOf (o := 0) hT1.three rfl; have pz1 := cellOf (o := 1) hT1.three rfl; have pz2 := cellOf (o := 2) hT1.three rfl; have pz3 := cellOf (o := 3) hT1.three rfl; have pz4 := cellOf (o := 4) hT1.three rfl; have pz5 := cellOf (o := 5) hT1.three rfl
              have HT := Lib.hid hT1
              clear hT1 HCB))
          | (go_at_call 45
             (
              refine (HCC.out _ HT.out).mono ?_
              rintro e w4 ⟨rfl, hT1⟩
              have px0 := cellOf (o := 0) hT1.one rfl; have px1 := cellOf (o := 1) hT1.one rfl; have px2 := cellOf (o := 2) hT1.one rfl; have px3 := cellOf (o := 3) hT1.one rfl; have px4 := cellOf (o := 4) hT1.one rfl; have px5 := cellOf (o := 5) hT1.one rfl
              have py0 := cellOf (o := 0) hT1.two rfl; have py1 := cellOf (o := 1) hT1.two rfl; have py2 := cellOf (o := 2) hT1.two rfl; have py3 := cellOf (o := 3) hT1.two rfl; have py4 := cellOf (o := 4) hT1.two rfl; have py5 := cellOf (o := 5) hT1.two rfl
              have pz0 := cellOf (o := 0) hT1.three rfl; have pz1 := cellOf (o := 1) hT1.three rfl; have pz2 := cellOf (o := 2) hT1.three rfl; have pz3 := cellOf (o := 3) hT1.three rfl; have pz4 := cellOf (o := 4) hT1.three rfl; have pz5 := cellOf (o := 5) hT1.three rfl
              have HT := Lib.hid hT1
              clear hT1 HCC))
          | (go_at_call 33; refine (num_any _ _).mono ?_; rintro e w' ⟨rfl, rfl⟩)
          | (go_at_call 16
             (refine (HW.out _ HT.out).mono ?_
              rintro e w9 ⟨rfl, hT1⟩
              have HT := Lib.hid hT1
              clear hT1)))
        go_ret
        exact ⟨rfl, HT.out.below⟩
    · have hne : (checkV Lib.validD a == 0) = false := by rw [beq_eq_false_iff_ne]; exact ka
      generalize checkV Lib.validD a = cv at *
      clear hE ha hb hc hT hts hs HR HCB HCC
      go_enter Tryz.func7, Tryz.ntmps7
      go_wp2_with (first
        | (go_at_call 15
           (
             refine HSM.out.mono ?_
             rintro e w1 ⟨rfl, hT1⟩
             have px0 := cellOf (o := 0) hT1.one rfl; have px1 := cellOf (o := 1) hT1.one rfl; have px2 := cellOf (o := 2) hT1.one rfl; have px3 := cellOf (o := 3) hT1.one rfl; have px4 := cellOf (o := 4) hT1.one rfl; have px5 := cellOf (o := 5) hT1.one rfl
             have py0 := cellOf (o := 0) hT1.two rfl; have py1 := cellOf (o := 1) hT1.two rfl; have py2 := cellOf (o := 2) hT1.two rfl; have py3 := cellOf (o := 3) hT1.two rfl; have py4 := cellOf (o := 4) hT1.two rfl; have py5 := cellOf (o := 5) hT1.two rfl
             have pz0 := cellOf (o := 0) hT1.three rfl; have pz1 := cellOf (o := 1) hT1.three rfl; have pz2 := cellOf (o := 2) hT1.three rfl; have pz3 := cellOf (o := 3) hT1.three rfl; have pz4 := cellOf (o := 4) hT1.three rfl; have pz5 := cellOf (o := 5) hT1.three rfl
             have HT := Lib.hid hT1
             clear hT1))
        | (go_at_call 45
           (
            refine (HCA.out _ HT.out).mono ?_
            rintro e w2 ⟨rfl, hT1⟩
            have px0 := cellOf (o := 0) hT1.one rfl; have px1 := cellOf (o := 1) hT1.one rfl; have px2 := cellOf (o := 2) hT1.one rfl; have px3 := cellOf (o := 3) hT1.one rfl; have px4 := cellOf (o := 4) hT1.one rfl; have px5 := cellOf (o := 5) hT1.one rfl
            have py0 := cellOf (o := 0) hT1.two rfl; have py1 := cellOf (o := 1) hT1.two rfl; have py2 := cellOf (o := 2) hT1.two rfl; have py3 := cellOf (o := 3) hT1.two rfl; have py4 := cellOf (o := 4) hT1.two rfl; have py5 := cellOf (o := 5) hT1.two rfl
            have pz0 := cellOf (o := 0) hT1.three rfl; have pz1 := cellOf (o := 1) hT1.three rfl; have pz2 := cellOf (o := 2) hT1.three rfl; have pz3 := cellOf (o := 3) hT1.three rfl; have pz4 := cellOf (o := 4) hT1.three rfl; have pz5 := cellOf (o := 5) hT1.three rfl
            have HT := Lib.hid hT1
            clear hT1 HCA))
        | (go_at_call 45
           (
            refine (HCB.out _ HT.out).mono ?_
            rintro e w3 ⟨rfl, hT1⟩
            have px0 := cellOf (o := 0) hT1.one rfl; have px1 := cellOf (o := 1) hT1.one rfl; have px2 := cellOf (o := 2) hT1.one rfl; have px3 := cellOf (o := 3) hT1.one rfl; have px4 := cellOf (o := 4) hT1.one rfl; have px5 := cellOf (o := 5) hT1.one rfl
            have py0 := cellOf (o := 0) hT1.two rfl; have py1 := cellOf (o := 1) hT1.two rfl; have py2 := cellOf (o := 2) hT1.two rfl; have py3 := cellOf (o := 3) hT1.two rfl; have py4 := cellOf (o := 4) hT1.two rfl; have py5 := cellOf (o := 5) hT1.two rfl
            have pz0 := cellOf (o := 0) hT1.three rfl; have pz1 := cellOf (o := 1) hT1.three rfl; have pz2 := cellOf (o := 2) hT1.three rfl; have pz3 := cellOf (o := 3) hT1.three rfl; have pz4 := cellOf (o := 4) hT1.three rfl; have pz5 := cellOf (o := 5) hT1.three rfl
            have HT := Lib.hid hT1
            clear hT1 HCB))
        | (go_at_call 45
           (
            refine (HCC.out _ HT.out).mono ?_
            rintro e w4 ⟨rfl, hT1⟩
            have px0 := cellOf (o := 0) hT1.one rfl; have px1 := cellOf (o := 1) hT1.one rfl; have px2 := cellOf (o := 2) hT1.one rfl; have px3 := cellOf (o := 3) hT1.one rfl; have px4 := cellOf (o := 4) hT1.one rfl; have px5 := cellOf (o := 5) hT1.one rfl
            have py0 := cellOf (o := 0) hT1.two rfl; have py1 := cellOf (o := 1) hT1.two rfl; have py2 := cellOf (o := 2) hT1.two rfl; have py3 := cellOf (o := 3) hT1.two rfl; have py4 := cellOf (o := 4) hT1.two rfl; have py5 := cellOf (o := 5) hT1.two rfl
            have pz0 := cellOf (o := 0) hT1.three rfl; have pz1 := cellOf (o := 1) hT1.three rfl; have pz2 := cellOf (o := 2) hT1.three rfl; have pz3 := cellOf (o := 3) hT1.three rfl; have pz4 := cellOf (o := 4) hT1.three rfl; have pz5 := cellOf (o := 5) hT1.three rfl
            have HT := Lib.hid hT1
            clear hT1 HCC))
        | (go_at_call 33; refine (num_any _ _).mono ?_; rintro e w' ⟨rfl, rfl⟩)
        | (go_at_call 16
           (refine (HW.out _ HT.out).mono ?_
            rintro e w9 ⟨rfl, hT1⟩
            have HT := Lib.hid hT1
            clear hT1)))
      go_ret
      exact ⟨rfl, HT.out.below⟩
  · rw [decide_eq_false hs] at HSM
    clear hE ha hb hc hT hts hs HR
    go_enter Tryz.func7, Tryz.ntmps7
    go_wp2_with (first
      | (go_at_call 15
         (
           refine HSM.out.mono ?_
           rintro e w1 ⟨rfl, hT1⟩
           have px0 := cellOf (o := 0) hT1.one rfl; have px1 := cellOf (o := 1) hT1.one rfl; have px2 := cellOf (o := 2) hT1.one rfl; have px3 := cellOf (o := 3) hT1.one rfl; have px4 := cellOf (o := 4) hT1.one rfl; have px5 := cellOf (o := 5) hT1.one rfl
           have py0 := cellOf (o := 0) hT1.two rfl; have py1 := cellOf (o := 1) hT1.two rfl; have py2 := cellOf (o := 2) hT1.two rfl; have py3 := cellOf (o := 3) hT1.two rfl; have py4 := cellOf (o := 4) hT1.two rfl; have py5 := cellOf (o := 5) hT1.two rfl
           have pz0 := cellOf (o := 0) hT1.three rfl; have pz1 := cellOf (o := 1) hT1.three rfl; have pz2 := cellOf (o := 2) hT1.three rfl; have pz3 := cellOf (o := 3) hT1.three rfl; have pz4 := cellOf (o := 4) hT1.three rfl; have pz5 := cellOf (o := 5) hT1.three rfl
           have HT := Lib.hid hT1
           clear hT1))
      | (go_at_call 45
         (
          refine (HCA.out _ HT.out).mono ?_
          rintro e w2 ⟨rfl, hT1⟩
          have px0 := cellOf (o := 0) hT1.one rfl; have px1 := cellOf (o := 1) hT1.one rfl; have px2 := cellOf (o := 2) hT1.one rfl; have px3 := cellOf (o := 3) hT1.one rfl; have px4 := cellOf (o := 4) hT1.one rfl; have px5 := cellOf (o := 5) hT1.one rfl
          have py0 := cellOf (o := 0) hT1.two rfl; have py1 := cellOf (o := 1) hT1.two rfl; have py2 := cellOf (o := 2) hT1.two rfl; have py3 := cellOf (o := 3) hT1.two rfl; have py4 := cellOf (o := 4) hT1.two rfl; have py5 := cellOf (o := 5) hT1.two rfl
          have pz0 := cellOf (o := 0) hT1.three rfl; have pz1 := cellOf (o := 1) hT1.three rfl; have pz2 := cellOf (o := 2) hT1.three rfl; have pz3 := cellOf (o := 3) hT1.three rfl; have pz4 := cellOf (o := 4) hT1.three rfl; have pz5 := cellOf (o := 5) hT1.three rfl
          have HT := Lib.hid hT1
          clear hT1 HCA))
      | (go_at_call 45
         (
          refine (HCB.out _ HT.out).mono ?_
          rintro e w3 ⟨rfl, hT1⟩
          have px0 := cellOf (o := 0) hT1.one rfl; have px1 := cellOf (o := 1) hT1.one rfl; have px2 := cellOf (o := 2) hT1.one rfl; have px3 := cellOf (o := 3) hT1.one rfl; have px4 := cellOf (o := 4) hT1.one rfl; have px5 := cellOf (o := 5) hT1.one rfl
          have py0 := cellOf (o := 0) hT1.two rfl; have py1 := cellOf (o := 1) hT1.two rfl; have py2 := cellOf (o := 2) hT1.two rfl; have py3 := cellOf (o := 3) hT1.two rfl; have py4 := cellOf (o := 4) hT1.two rfl; have py5 := cellOf (o := 5) hT1.two rfl
          have pz0 := cellOf (o := 0) hT1.three rfl; have pz1 := cellOf (o := 1) hT1.three rfl; have pz2 := cellOf (o := 2) hT1.three rfl; have pz3 := cellOf (o := 3) hT1.three rfl; have pz4 := cellOf (o := 4) hT1.three rfl; have pz5 := cellOf (o := 5) hT1.three rfl
          have HT := Lib.hid hT1
          clear hT1 HCB))
      | (go_at_call 45
         (
          refine (HCC.out _ HT.out).mono ?_
          rintro e w4 ⟨rfl, hT1⟩
          have px0 := cellOf (o := 0) hT1.one rfl; have px1 := cellOf (o := 1) hT1.one rfl; have px2 := cellOf (o := 2) hT1.one rfl; have px3 := cellOf (o := 3) hT1.one rfl; have px4 := cellOf (o := 4) hT1.one rfl; have px5 := cellOf (o := 5) hT1.one rfl
          have py0 := cellOf (o := 0) hT1.two rfl; have py1 := cellOf (o := 1) hT1.two rfl; have py2 := cellOf (o := 2) hT1.two rfl; have py3 := cellOf (o := 3) hT1.two rfl; have py4 := cellOf (o := 4) hT1.two rfl; have py5 := cellOf (o := 5) hT1.two rfl
          have pz0 := cellOf (o := 0) hT1.three rfl; have pz1 := cellOf (o := 1) hT1.three rfl; have pz2 := cellOf (o := 2) hT1.three rfl; have pz3 := cellOf (o := 3) hT1.three rfl; have pz4 := cellOf (o := 4) hT1.three rfl; have pz5 := cellOf (o := 5) hT1.three rfl
          have HT := Lib.hid hT1
          clear hT1 HCC))
      | (go_at_call 33; refine (num_any _ _).mono ?_; rintro e w' ⟨rfl, rfl⟩)
      | (go_at_call 16
         (refine (HW.out _ HT.out).mono ?_
          rintro e w9 ⟨rfl, hT1⟩
          have HT := Lib.hid hT1
          clear hT1)))
    go_ret
    exact ⟨rfl, HT.out.below⟩
end Go.Proofs.YtnkaegdnjfpliaaGreatDoor
