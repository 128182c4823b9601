/- ValueEqual: which values are equal, and which is less. Printed by gen_equal.py. -/
import Derived.Test.YtnkaegdnjfpliaaGreatDoorVwork
import Derived.Test.YtnkaegdnjfpliaaGreatDoorVeqlaw2
namespace Go.Proofs.YtnkaegdnjfpliaaGreatDoor
set_option linter.unusedSimpArgs false
set_option linter.unusedVariables false
open Go.RowKit

section
variable {w W : World} {x y u u' : Array Value} {v v' : V}
theorem TwoV.check (h : TwoV w W x y) (hE : Env w) (hv : VRd w v u) (ht : totV v ≤ 1099511627776) : Calls Tryz.prog 45 #[.agg u] W fun e w' => e = .returned (.int .i64 (checkV Lib.validD v)) ∧ TwoV w w' x y :=
  (check_ok (hE.b h.2.2) (hv.below h.2.2) ht).mono fun _ _ h' => ⟨h'.1, h.below h'.2⟩
theorem TwoV.same (h : TwoV w W x y) (hE : Env w) (hv : VRd w v u) (hv' : VRd w v' u') (h1 : okV v = true) (h2 : okV v' = true) (ht : totV v + totV v' ≤ 1099511627776) {n : Bool} (hn : decide (cmpV v v' = 0) = n) : Calls Tryz.prog 21 #[.agg u, .agg u'] W fun e w' => e = .returned (.bool n) ∧ TwoV w w' x y :=
  (same_any (hE.b h.2.2) (hv.below h.2.2) (hv'.below h.2.2) ht).mono fun _ _ h' => by
    rw [h1, h2, hn] at h'
    exact ⟨by simpa using h'.1, h.below h'.2⟩
theorem TwoV.equal (h : TwoV w W x y) (hE : Env w) (hv : VRd w v u) (hv' : VRd w v' u') (h1 : okV v = true) (h2 : okV v' = true) (ht : totV v + totV v' ≤ 1099511627776) {n : Int} (hn : eqV v v' = n) : Calls Tryz.prog 25 #[.agg u, .agg u'] W fun e w' => e = .returned (.int .i64 n) ∧ TwoV w w' x y :=
  (equalPub_any (hE.b h.2.2) (hv.below h.2.2) (hv'.below h.2.2) ht).mono fun _ _ h' => by
    rw [h1, h2, hn] at h'
    exact ⟨h'.1, h.below h'.2⟩
theorem TwoV.less (h : TwoV w W x y) (hE : Env w) (hv : VRd w v u) (hv' : VRd w v' u') (ht : totV v + totV v' ≤ 1099511627776) {n : Int} (hn : lessV v v' = n) : Calls Tryz.prog 26 #[.agg u, .agg u'] W fun e w' => e = .returned (.int .i64 n) ∧ TwoV w w' x y :=
  (less_any (hE.b h.2.2) (hv.below h.2.2) (hv'.below h.2.2) ht).mono fun _ _ h' => by
    rw [hn] at h'
    exact ⟨h'.1, h.below h'.2⟩
theorem TwoV.nothing (h : TwoV w W x y) (hv : VRd w v u) {n : Bool} (hn : nullV v = n) : Calls Tryz.prog 46 #[.agg u] W fun e w' => e = .returned (.bool n) ∧ TwoV w w' x y :=
  (nothing_any v W u (hv.below h.2.2)).mono fun _ _ h' => by
    rw [hn] at h'
    exact ⟨h'.1, h.below h'.2⟩
theorem TwoV.works (h : TwoV w W x y) (hE : Env w) : Calls Tryz.prog 16 #[] W fun e w' => e = .returned (.bool true) ∧ TwoV w w' x y :=
  (works_any (hE.b h.2.2)).mono fun _ _ h' => ⟨h'.1, h.below h'.2⟩
end
/-- What the law's walk meets of two values that may be. -/
structure Eqs (w : World) (X Y : Array Value) (a b : V) (t : Int) (s na nb : Bool) (x y : Int) : Prop where
  ca : ∀ W, TwoV w W X Y → Calls Tryz.prog 45 #[.agg X] W fun e w' => e = .returned (.int .i64 0) ∧ TwoV w w' X Y
  cb : ∀ W, TwoV w W X Y → Calls Tryz.prog 45 #[.agg Y] W fun e w' => e = .returned (.int .i64 0) ∧ TwoV w w' X Y
  e1 : ∀ W, TwoV w W X Y → Calls Tryz.prog 25 #[.agg X, .agg Y] W fun e w' => e = .returned (.int .i64 t) ∧ TwoV w w' X Y
  e2 : ∀ W, TwoV w W X Y → Calls Tryz.prog 25 #[.agg Y, .agg X] W fun e w' => e = .returned (.int .i64 t) ∧ TwoV w w' X Y
  s : ∀ W, TwoV w W X Y → Calls Tryz.prog 21 #[.agg X, .agg Y] W fun e w' => e = .returned (.bool s) ∧ TwoV w w' X Y
  na : ∀ W, TwoV w W X Y → Calls Tryz.prog 46 #[.agg X] W fun e w' => e = .returned (.bool na) ∧ TwoV w w' X Y
  nb : ∀ W, TwoV w W X Y → Calls Tryz.prog 46 #[.agg Y] W fun e w' => e = .returned (.bool nb) ∧ TwoV w w' X Y
  l1 : ∀ W, TwoV w W X Y → Calls Tryz.prog 26 #[.agg X, .agg Y] W fun e w' => e = .returned (.int .i64 x) ∧ TwoV w w' X Y
  l2 : ∀ W, TwoV w W X Y → Calls Tryz.prog 26 #[.agg Y, .agg X] W fun e w' => e = .returned (.int .i64 y) ∧ TwoV w w' X Y
  wk : ∀ W, TwoV w W X Y → Calls Tryz.prog 16 #[] W fun e w' => e = .returned (.bool true) ∧ TwoV w w' X Y
theorem EqCase.eqs {w : World} {X Y : Array Value} {a b : V} {t : Int} {s na nb : Bool} {x y : Int} (h : EqCase a b t s na nb x y) (hE : Env w) (ha : VRd w a X) (hb : VRd w b Y) (ka : checkV Lib.validD a = 0) (kb : checkV Lib.validD b = 0) (ht : totV a + totV b ≤ 2000) : Eqs w X Y a b t s na nb x y := by
  have oa : okV a = true := by unfold okV; rw [ka]; rfl
  have ob : okV b = true := by unfold okV; rw [kb]; rfl
  refine ⟨fun W hT => ?_, fun W hT => ?_, fun W hT => hT.equal hE ha hb oa ob (by omega) h.ht, fun W hT => hT.equal hE hb ha ob oa (by omega) h.ht2, fun W hT => hT.same hE ha hb oa ob (by omega) h.hs, fun W hT => hT.nothing ha h.hna, fun W hT => hT.nothing hb h.hnb,
    fun W hT => hT.less hE ha hb (by omega) h.hx, fun W hT => hT.less hE hb ha (by omega) h.hy, fun W hT => hT.works hE⟩
  · have := hT.check hE ha (by omega)
    rwa [ka] at this
  · have := hT.check hE hb (by omega)
    rwa [kb] at this
set_option maxRecDepth 100000 in
set_option maxHeartbeats 8000000 in
theorem equal_lt {w : World} {a b : V} {pk pk' pl pl' : Option Addr} {ck ck' cl cl' : Nat}
    (HSM : Hid (Calls Tryz.prog 15 #[.slice (some ⟨w.heap.size + 1 + 1, 0, none⟩) 2 2] (((w.alloc (.cells #[.int .i64 a.kind, .bool a.b, .int .i64 a.n, .string (strB a.text), .slice pk a.keys.length ck, .slice pl a.list.length cl] 26)).alloc (.cells #[.int .i64 b.kind, .bool b.b, .int .i64 b.n, .string (strB b.text), .slice pk' b.keys.length ck', .slice pl' b.list.length cl'] 26)).alloc (.cells #[.int .i64 a.kind, .bool a.b, .int .i64 a.n, .string (strB a.text), .slice pk a.keys.length ck, .slice pl a.list.length cl, .int .i64 b.kind, .bool b.b, .int .i64 b.n, .string (strB b.text), .slice pk' b.keys.length ck', .slice pl' b.list.length cl'] 26)) fun e w' => e = .returned (.bool true) ∧ TwoV w w' #[.int .i64 a.kind, .bool a.b, .int .i64 a.n, .string (strB a.text), .slice pk a.keys.length ck, .slice pl a.list.length cl] #[.int .i64 b.kind, .bool b.b, .int .i64 b.n, .string (strB b.text), .slice pk' b.keys.length ck', .slice pl' b.list.length cl']))
    (HQ : Hid (Eqs w #[.int .i64 a.kind, .bool a.b, .int .i64 a.n, .string (strB a.text), .slice pk a.keys.length ck, .slice pl a.list.length cl] #[.int .i64 b.kind, .bool b.b, .int .i64 b.n, .string (strB b.text), .slice pk' b.keys.length ck', .slice pl' b.list.length cl'] a b 0 false false false 2 0)) (hk : a.kind = b.kind) (h3 : a.kind = 1 ∨ a.kind = 2 ∨ a.kind = 3) :
    Calls Tryz.prog 8 #[.agg #[.int .i64 a.kind, .bool a.b, .int .i64 a.n, .string (strB a.text), .slice pk a.keys.length ck, .slice pl a.list.length cl], .agg #[.int .i64 b.kind, .bool b.b, .int .i64 b.n, .string (strB b.text), .slice pk' b.keys.length ck', .slice pl' b.list.length cl']] w fun e w' => e = .returned (.bool true) ∧ Below w.heap.size w w' := by
  have hk2 : (a.kind == b.kind) = true ∧ ((a.kind == 1) = true ∧ (a.kind == 2) = false ∧ (a.kind == 3) = false ∨ (a.kind == 2) = true ∨ (a.kind == 2) = false ∧ (a.kind == 3) = true) := by
    refine ⟨by rw [beq_iff_eq]; exact hk, ?_⟩
    rcases h3 with e | e | e <;> rw [e] <;> simp
  generalize a.kind = ka at *
  generalize b.kind = kb at *
  clear hk h3
  obtain ⟨dk, hk2⟩ := hk2
  rcases hk2 with ⟨d1, d2, d3⟩ | d2 | ⟨d2, d3⟩
  all_goals
    have HCA := Lib.hid HQ.out.ca
    have HCB := Lib.hid HQ.out.cb
    have HE1 := Lib.hid HQ.out.e1
    have HE2 := Lib.hid HQ.out.e2
    have HS := Lib.hid HQ.out.s
    have HNA := Lib.hid HQ.out.na
    have HNB := Lib.hid HQ.out.nb
    have HL1 := Lib.hid HQ.out.l1
    have HL2 := Lib.hid HQ.out.l2
    have HWK := Lib.hid HQ.out.wk
    go_enter Tryz.func8, Tryz.ntmps8
    go_wp2_with (first
      | (go_at_call 15
         (refine (HSM.out).mono ?_
          rintro e w1 ⟨rfl, hT1⟩
          have px0 := cellOf (o := 0) hT1.1 rfl; have px1 := cellOf (o := 1) hT1.1 rfl; have px2 := cellOf (o := 2) hT1.1 rfl; have px3 := cellOf (o := 3) hT1.1 rfl; have px4 := cellOf (o := 4) hT1.1 rfl; have px5 := cellOf (o := 5) hT1.1 rfl
          have py0 := cellOf (o := 0) hT1.2.1 rfl; have py1 := cellOf (o := 1) hT1.2.1 rfl; have py2 := cellOf (o := 2) hT1.2.1 rfl; have py3 := cellOf (o := 3) hT1.2.1 rfl; have py4 := cellOf (o := 4) hT1.2.1 rfl; have py5 := cellOf (o := 5) hT1.2.1 rfl
          have HT := Lib.hid hT1
          clear hT1))
      | (go_at_call 45
         (refine (HCA.out _ HT.out).mono ?_
          rintro e w2 ⟨rfl, hT1⟩
          have px0 := cellOf (o := 0) hT1.1 rfl; have px1 := cellOf (o := 1) hT1.1 rfl; have px2 := cellOf (o := 2) hT1.1 rfl; have px3 := cellOf (o := 3) hT1.1 rfl; have px4 := cellOf (o := 4) hT1.1 rfl; have px5 := cellOf (o := 5) hT1.1 rfl
          have py0 := cellOf (o := 0) hT1.2.1 rfl; have py1 := cellOf (o := 1) hT1.2.1 rfl; have py2 := cellOf (o := 2) hT1.2.1 rfl; have py3 := cellOf (o := 3) hT1.2.1 rfl; have py4 := cellOf (o := 4) hT1.2.1 rfl; have py5 := cellOf (o := 5) hT1.2.1 rfl
          have HT := Lib.hid hT1
          clear hT1 HCA))
      | (go_at_call 45
         (refine (HCB.out _ HT.out).mono ?_
          rintro e w3 ⟨rfl, hT1⟩
          have px0 := cellOf (o := 0) hT1.1 rfl; have px1 := cellOf (o := 1) hT1.1 rfl; have px2 := cellOf (o := 2) hT1.1 rfl; have px3 := cellOf (o := 3) hT1.1 rfl; have px4 := cellOf (o := 4) hT1.1 rfl; have px5 := cellOf (o := 5) hT1.1 rfl
          have py0 := cellOf (o := 0) hT1.2.1 rfl; have py1 := cellOf (o := 1) hT1.2.1 rfl; have py2 := cellOf (o := 2) hT1.2.1 rfl; have py3 := cellOf (o := 3) hT1.2.1 rfl; have py4 := cellOf (o := 4) hT1.2.1 rfl; have py5 := cellOf (o := 5) hT1.2.1 rfl
          have HT := Lib.hid hT1
          clear hT1 HCB))
      | (go_at_call 25
         (refine (HE1.out _ HT.out).mono ?_
          rintro e w4 ⟨rfl, hT1⟩
          have px0 := cellOf (o := 0) hT1.1 rfl; have px1 := cellOf (o := 1) hT1.1 rfl; have px2 := cellOf (o := 2) hT1.1 rfl; have px3 := cellOf (o := 3) hT1.1 rfl; have px4 := cellOf (o := 4) hT1.1 rfl; have px5 := cellOf (o := 5) hT1.1 rfl
          have py0 := cellOf (o := 0) hT1.2.1 rfl; have py1 := cellOf (o := 1) hT1.2.1 rfl; have py2 := cellOf (o := 2) hT1.2.1 rfl; have py3 := cellOf (o := 3) hT1.2.1 rfl; have py4 := cellOf (o := 4) hT1.2.1 rfl; have py5 := cellOf (o := 5) hT1.2.1 rfl
          have HT := Lib.hid hT1
          clear hT1 HE1))
      | (go_at_call 25
         (refine (HE2.out _ HT.out).mono ?_
          rintro e w5 ⟨rfl, hT1⟩
          have px0 := cellOf (o := 0) hT1.1 rfl; have px1 := cellOf (o := 1) hT1.1 rfl; have px2 := cellOf (o := 2) hT1.1 rfl; have px3 := cellOf (o := 3) hT1.1 rfl; have px4 := cellOf (o := 4) hT1.1 rfl; have px5 := cellOf (o := 5) hT1.1 rfl
          have py0 := cellOf (o := 0) hT1.2.1 rfl; have py1 := cellOf (o := 1) hT1.2.1 rfl; have py2 := cellOf (o := 2) hT1.2.1 rfl; have py3 := cellOf (o := 3) hT1.2.1 rfl; have py4 := cellOf (o := 4) hT1.2.1 rfl; have py5 := cellOf (o := 5) hT1.2.1 rfl
          have HT := Lib.hid hT1
          clear hT1 HE2))
      | (go_at_call 21
         (refine (HS.out _ HT.out).mono ?_
          rintro e w6 ⟨rfl, hT1⟩
          have px0 := cellOf (o := 0) hT1.1 rfl; have px1 := cellOf (o := 1) hT1.1 rfl; have px2 := cellOf (o := 2) hT1.1 rfl; have px3 := cellOf (o := 3) hT1.1 rfl; have px4 := cellOf (o := 4) hT1.1 rfl; have px5 := cellOf (o := 5) hT1.1 rfl
          have py0 := cellOf (o := 0) hT1.2.1 rfl; have py1 := cellOf (o := 1) hT1.2.1 rfl; have py2 := cellOf (o := 2) hT1.2.1 rfl; have py3 := cellOf (o := 3) hT1.2.1 rfl; have py4 := cellOf (o := 4) hT1.2.1 rfl; have py5 := cellOf (o := 5) hT1.2.1 rfl
          have HT := Lib.hid hT1
          clear hT1 HS))
      | (go_at_call 46
         (refine (HNA.out _ HT.out).mono ?_
          rintro e w7 ⟨rfl, hT1⟩
          have px0 := cellOf (o := 0) hT1.1 rfl; have px1 := cellOf (o := 1) hT1.1 rfl; have px2 := cellOf (o := 2) hT1.1 rfl; have px3 := cellOf (o := 3) hT1.1 rfl; have px4 := cellOf (o := 4) hT1.1 rfl; have px5 := cellOf (o := 5) hT1.1 rfl
          have py0 := cellOf (o := 0) hT1.2.1 rfl; have py1 := cellOf (o := 1) hT1.2.1 rfl; have py2 := cellOf (o := 2) hT1.2.1 rfl; have py3 := cellOf (o := 3) hT1.2.1 rfl; have py4 := cellOf (o := 4) hT1.2.1 rfl; have py5 := cellOf (o := 5) hT1.2.1 rfl
          have HT := Lib.hid hT1
          clear hT1 HNA))
      | (go_at_call 46
         (refine (HNB.out _ HT.out).mono ?_
          rintro e w8 ⟨rfl, hT1⟩
          have px0 := cellOf (o := 0) hT1.1 rfl; have px1 := cellOf (o := 1) hT1.1 rfl; have px2 := cellOf (o := 2) hT1.1 rfl; have px3 := cellOf (o := 3) hT1.1 rfl; have px4 := cellOf (o := 4) hT1.1 rfl; have px5 := cellOf (o := 5) hT1.1 rfl
          have py0 := cellOf (o := 0) hT1.2.1 rfl; have py1 := cellOf (o := 1) hT1.2.1 rfl; have py2 := cellOf (o := 2) hT1.2.1 rfl; have py3 := cellOf (o := 3) hT1.2.1 rfl; have py4 := cellOf (o := 4) hT1.2.1 rfl; have py5 := cellOf (o := 5) hT1.2.1 rfl
          have HT := Lib.hid hT1
          clear hT1 HNB))
      | (go_at_call 33; refine (num_any _ _).mono ?_; rintro e w' ⟨rfl, rfl⟩))
    have hU : TwoV w _ #[.int .i64 ka, .bool a.b, .int .i64 a.n, .string (strB a.text), .slice pk a.keys.length ck, .slice pl a.list.length cl] #[.int .i64 kb, .bool b.b, .int .i64 b.n, .string (strB b.text), .slice pk' b.keys.length ck', .slice pl' b.list.length cl'] := HT.out.below (Below.refl _ _).drew
    refine plain_region_draws (fun W => TwoV w W #[.int .i64 ka, .bool a.b, .int .i64 a.n, .string (strB a.text), .slice pk a.keys.length ck, .slice pl a.list.length cl] #[.int .i64 kb, .bool b.b, .int .i64 b.n, .string (strB b.text), .slice pk' b.keys.length ck', .slice pl' b.list.length cl']) (by kernel_rfl) hU (fun hU => ?_)
    refine take 0 74 (v := .agg #[.int .i64 ka, .bool a.b, .int .i64 a.n, .string (strB a.text), .slice pk a.keys.length ck, .slice pl a.list.length cl]) rfl rfl (by kernel_rfl) (by kernel_rfl) (by kernel_rfl) rfl (fun W hW => exec_load rfl rfl (get_val hW.1)) (by assumption) ?_
    simp only [Act.put, List.setIfInBounds_toArray, List.set_cons_zero, List.set_cons_succ]
    refine take 1 75 (v := .agg #[.int .i64 kb, .bool b.b, .int .i64 b.n, .string (strB b.text), .slice pk' b.keys.length ck', .slice pl' b.list.length cl']) rfl rfl (by kernel_rfl) (by kernel_rfl) (by kernel_rfl) rfl (fun W hW => exec_load rfl rfl (get_val hW.2.1)) (by assumption) ?_
    simp only [Act.put, List.setIfInBounds_toArray, List.set_cons_zero, List.set_cons_succ]
    refine take 3 77 (v := .agg #[.int .i64 kb, .bool b.b, .int .i64 b.n, .string (strB b.text), .slice pk' b.keys.length ck', .slice pl' b.list.length cl']) rfl rfl (by kernel_rfl) (by kernel_rfl) (by kernel_rfl) rfl (fun W hW => exec_load rfl rfl (get_val hW.2.1)) (by assumption) ?_
    simp only [Act.put, List.setIfInBounds_toArray, List.set_cons_zero, List.set_cons_succ]
    refine take 4 78 (v := .agg #[.int .i64 ka, .bool a.b, .int .i64 a.n, .string (strB a.text), .slice pk a.keys.length ck, .slice pl a.list.length cl]) rfl rfl (by kernel_rfl) (by kernel_rfl) (by kernel_rfl) rfl (fun W hW => exec_load rfl rfl (get_val hW.1)) (by assumption) ?_
    simp only [Act.put, List.setIfInBounds_toArray, List.set_cons_zero, List.set_cons_succ]
    refine onlyCall 2 76 rfl rfl (by kernel_rfl) rfl (exec_call [.agg #[.int .i64 ka, .bool a.b, .int .i64 a.n, .string (strB a.text), .slice pk a.keys.length ck, .slice pl a.list.length cl], .agg #[.int .i64 kb, .bool b.b, .int .i64 b.n, .string (strB b.text), .slice pk' b.keys.length ck', .slice pl' b.list.length cl']] rfl rfl Tryz.func26 (by kernel_rfl) (by kernel_rfl)) ?_
    refine (HL1.out _ hU).mono ?_
    rintro e w' ⟨rfl, hU⟩
    refine ⟨_, rfl, .inr (by assumption), ?_⟩
    simp only [Act.put, List.setIfInBounds_toArray, List.set_cons_zero, List.set_cons_succ]
    refine onlyCall 5 79 rfl rfl (by kernel_rfl) rfl (exec_call [.agg #[.int .i64 kb, .bool b.b, .int .i64 b.n, .string (strB b.text), .slice pk' b.keys.length ck', .slice pl' b.list.length cl'], .agg #[.int .i64 ka, .bool a.b, .int .i64 a.n, .string (strB a.text), .slice pk a.keys.length ck, .slice pl a.list.length cl]] rfl rfl Tryz.func26 (by kernel_rfl) (by kernel_rfl)) ?_
    refine (HL2.out _ hU).mono ?_
    rintro e w' ⟨rfl, hU⟩
    refine ⟨_, rfl, .inr (by assumption), ?_⟩
    simp only [Act.put, List.setIfInBounds_toArray, List.set_cons_zero, List.set_cons_succ]
    refine take 6 7 (v := .int .i64 2) rfl rfl (by kernel_rfl) (by kernel_rfl) (by kernel_rfl) rfl (fun W hW => exec_assign rfl rfl) (by assumption) ?_
    simp only [Act.put, List.setIfInBounds_toArray, List.set_cons_zero, List.set_cons_succ]
    refine take 7 8 (v := .int .i64 0) rfl rfl (by kernel_rfl) (by kernel_rfl) (by kernel_rfl) rfl (fun W hW => exec_assign rfl rfl) (by assumption) ?_
    simp only [Act.put, List.setIfInBounds_toArray, List.set_cons_zero, List.set_cons_succ]
    refine done (by kernel_rfl) ?_ _
    have HT := Lib.hid hU
    have px0 := cellOf (o := 0) hU.1 rfl; have px1 := cellOf (o := 1) hU.1 rfl; have px2 := cellOf (o := 2) hU.1 rfl; have px3 := cellOf (o := 3) hU.1 rfl; have px4 := cellOf (o := 4) hU.1 rfl; have px5 := cellOf (o := 5) hU.1 rfl
    have py0 := cellOf (o := 0) hU.2.1 rfl; have py1 := cellOf (o := 1) hU.2.1 rfl; have py2 := cellOf (o := 2) hU.2.1 rfl; have py3 := cellOf (o := 3) hU.2.1 rfl; have py4 := cellOf (o := 4) hU.2.1 rfl; have py5 := cellOf (o := 5) hU.2.1 rfl
    clear hU
    go_wp2_with (
      first
      | (go_at_call 16
         (refine (HWK.out _ HT.out).mono ?_
          rintro e w9 ⟨rfl, hT1⟩
          have px0 := cellOf (o := 0) hT1.1 rfl; have px1 := cellOf (o := 1) hT1.1 rfl; have px2 := cellOf (o := 2) hT1.1 rfl; have px3 := cellOf (o := 3) hT1.1 rfl; have px4 := cellOf (o := 4) hT1.1 rfl; have px5 := cellOf (o := 5) hT1.1 rfl
          have py0 := cellOf (o := 0) hT1.2.1 rfl; have py1 := cellOf (o := 1) hT1.2.1 rfl; have py2 := cellOf (o := 2) hT1.2.1 rfl; have py3 := cellOf (o := 3) hT1.2.1 rfl; have py4 := cellOf (o := 4) hT1.2.1 rfl; have py5 := cellOf (o := 5) hT1.2.1 rfl
          have HT := Lib.hid hT1
          clear hT1)))
    go_ret
    exact ⟨rfl, HT.out.2.2⟩
set_option maxRecDepth 100000 in
set_option maxHeartbeats 8000000 in
theorem equal_eq {w : World} {a b : V} {pk pk' pl pl' : Option Addr} {ck ck' cl cl' : Nat}
    (HSM : Hid (Calls Tryz.prog 15 #[.slice (some ⟨w.heap.size + 1 + 1, 0, none⟩) 2 2] (((w.alloc (.cells #[.int .i64 a.kind, .bool a.b, .int .i64 a.n, .string (strB a.text), .slice pk a.keys.length ck, .slice pl a.list.length cl] 26)).alloc (.cells #[.int .i64 b.kind, .bool b.b, .int .i64 b.n, .string (strB b.text), .slice pk' b.keys.length ck', .slice pl' b.list.length cl'] 26)).alloc (.cells #[.int .i64 a.kind, .bool a.b, .int .i64 a.n, .string (strB a.text), .slice pk a.keys.length ck, .slice pl a.list.length cl, .int .i64 b.kind, .bool b.b, .int .i64 b.n, .string (strB b.text), .slice pk' b.keys.length ck', .slice pl' b.list.length cl'] 26)) fun e w' => e = .returned (.bool true) ∧ TwoV w w' #[.int .i64 a.kind, .bool a.b, .int .i64 a.n, .string (strB a.text), .slice pk a.keys.length ck, .slice pl a.list.length cl] #[.int .i64 b.kind, .bool b.b, .int .i64 b.n, .string (strB b.text), .slice pk' b.keys.length ck', .slice pl' b.list.length cl']))
    (HQ : Hid (Eqs w #[.int .i64 a.kind, .bool a.b, .int .i64 a.n, .string (strB a.text), .slice pk a.keys.length ck, .slice pl a.list.length cl] #[.int .i64 b.kind, .bool b.b, .int .i64 b.n, .string (strB b.text), .slice pk' b.keys.length ck', .slice pl' b.list.length cl'] a b 2 true false false 0 0)) (hk : a.kind = b.kind) (h3 : a.kind = 1 ∨ a.kind = 2 ∨ a.kind = 3) :
    Calls Tryz.prog 8 #[.agg #[.int .i64 a.kind, .bool a.b, .int .i64 a.n, .string (strB a.text), .slice pk a.keys.length ck, .slice pl a.list.length cl], .agg #[.int .i64 b.kind, .bool b.b, .int .i64 b.n, .string (strB b.text), .slice pk' b.keys.length ck', .slice pl' b.list.length cl']] w fun e w' => e = .returned (.bool true) ∧ Below w.heap.size w w' := by
  have hk2 : (a.kind == b.kind) = true ∧ ((a.kind == 1) = true ∧ (a.kind == 2) = false ∧ (a.kind == 3) = false ∨ (a.kind == 2) = true ∨ (a.kind == 2) = false ∧ (a.kind == 3) = true) := by
    refine ⟨by rw [beq_iff_eq]; exact hk, ?_⟩
    rcases h3 with e | e | e <;> rw [e] <;> simp
  generalize a.kind = ka at *
  generalize b.kind = kb at *
  clear hk h3
  obtain ⟨dk, hk2⟩ := hk2
  rcases hk2 with ⟨d1, d2, d3⟩ | d2 | ⟨d2, d3⟩
  all_goals
    have HCA := Lib.hid HQ.out.ca
    have HCB := Lib.hid HQ.out.cb
    have HE1 := Lib.hid HQ.out.e1
    have HE2 := Lib.hid HQ.out.e2
    have HS := Lib.hid HQ.out.s
    have HNA := Lib.hid HQ.out.na
    have HNB := Lib.hid HQ.out.nb
    have HL1 := Lib.hid HQ.out.l1
    have HL2 := Lib.hid HQ.out.l2
    have HWK := Lib.hid HQ.out.wk
    go_enter Tryz.func8, Tryz.ntmps8
    go_wp2_with (first
      | (go_at_call 15
         (refine (HSM.out).mono ?_
          rintro e w1 ⟨rfl, hT1⟩
          have px0 := cellOf (o := 0) hT1.1 rfl; have px1 := cellOf (o := 1) hT1.1 rfl; have px2 := cellOf (o := 2) hT1.1 rfl; have px3 := cellOf (o := 3) hT1.1 rfl; have px4 := cellOf (o := 4) hT1.1 rfl; have px5 := cellOf (o := 5) hT1.1 rfl
          have py0 := cellOf (o := 0) hT1.2.1 rfl; have py1 := cellOf (o := 1) hT1.2.1 rfl; have py2 := cellOf (o := 2) hT1.2.1 rfl; have py3 := cellOf (o := 3) hT1.2.1 rfl; have py4 := cellOf (o := 4) hT1.2.1 rfl; have py5 := cellOf (o := 5) hT1.2.1 rfl
          have HT := Lib.hid hT1
          clear hT1))
      | (go_at_call 45
         (refine (HCA.out _ HT.out).mono ?_
          rintro e w2 ⟨rfl, hT1⟩
          have px0 := cellOf (o := 0) hT1.1 rfl; have px1 := cellOf (o := 1) hT1.1 rfl; have px2 := cellOf (o := 2) hT1.1 rfl; have px3 := cellOf (o := 3) hT1.1 rfl; have px4 := cellOf (o := 4) hT1.1 rfl; have px5 := cellOf (o := 5) hT1.1 rfl
          have py0 := cellOf (o := 0) hT1.2.1 rfl; have py1 := cellOf (o := 1) hT1.2.1 rfl; have py2 := cellOf (o := 2) hT1.2.1 rfl; have py3 := cellOf (o := 3) hT1.2.1 rfl; have py4 := cellOf (o := 4) hT1.2.1 rfl; have py5 := cellOf (o := 5) hT1.2.1 rfl
          have HT := Lib.hid hT1
          clear hT1 HCA))
      | (go_at_call 45
         (refine (HCB.out _ HT.out).mono ?_
          rintro e w3 ⟨rfl, hT1⟩
          have px0 := cellOf (o := 0) hT1.1 rfl; have px1 := cellOf (o := 1) hT1.1 rfl; have px2 := cellOf (o := 2) hT1.1 rfl; have px3 := cellOf (o := 3) hT1.1 rfl; have px4 := cellOf (o := 4) hT1.1 rfl; have px5 := cellOf (o := 5) hT1.1 rfl
          have py0 := cellOf (o := 0) hT1.2.1 rfl; have py1 := cellOf (o := 1) hT1.2.1 rfl; have py2 := cellOf (o := 2) hT1.2.1 rfl; have py3 := cellOf (o := 3) hT1.2.1 rfl; have py4 := cellOf (o := 4) hT1.2.1 rfl; have py5 := cellOf (o := 5) hT1.2.1 rfl
          have HT := Lib.hid hT1
          clear hT1 HCB))
      | (go_at_call 25
         (refine (HE1.out _ HT.out).mono ?_
          rintro e w4 ⟨rfl, hT1⟩
          have px0 := cellOf (o := 0) hT1.1 rfl; have px1 := cellOf (o := 1) hT1.1 rfl; have px2 := cellOf (o := 2) hT1.1 rfl; have px3 := cellOf (o := 3) hT1.1 rfl; have px4 := cellOf (o := 4) hT1.1 rfl; have px5 := cellOf (o := 5) hT1.1 rfl
          have py0 := cellOf (o := 0) hT1.2.1 rfl; have py1 := cellOf (o := 1) hT1.2.1 rfl; have py2 := cellOf (o := 2) hT1.2.1 rfl; have py3 := cellOf (o := 3) hT1.2.1 rfl; have py4 := cellOf (o := 4) hT1.2.1 rfl; have py5 := cellOf (o := 5) hT1.2.1 rfl
          have HT := Lib.hid hT1
          clear hT1 HE1))
      | (go_at_call 25
         (refine (HE2.out _ HT.out).mono ?_
          rintro e w5 ⟨rfl, hT1⟩
          have px0 := cellOf (o := 0) hT1.1 rfl; have px1 := cellOf (o := 1) hT1.1 rfl; have px2 := cellOf (o := 2) hT1.1 rfl; have px3 := cellOf (o := 3) hT1.1 rfl; have px4 := cellOf (o := 4) hT1.1 rfl; have px5 := cellOf (o := 5) hT1.1 rfl
          have py0 := cellOf (o := 0) hT1.2.1 rfl; have py1 := cellOf (o := 1) hT1.2.1 rfl; have py2 := cellOf (o := 2) hT1.2.1 rfl; have py3 := cellOf (o := 3) hT1.2.1 rfl; have py4 := cellOf (o := 4) hT1.2.1 rfl; have py5 := cellOf (o := 5) hT1.2.1 rfl
          have HT := Lib.hid hT1
          clear hT1 HE2))
      | (go_at_call 21
         (refine (HS.out _ HT.out).mono ?_
          rintro e w6 ⟨rfl, hT1⟩
          have px0 := cellOf (o := 0) hT1.1 rfl; have px1 := cellOf (o := 1) hT1.1 rfl; have px2 := cellOf (o := 2) hT1.1 rfl; have px3 := cellOf (o := 3) hT1.1 rfl; have px4 := cellOf (o := 4) hT1.1 rfl; have px5 := cellOf (o := 5) hT1.1 rfl
          have py0 := cellOf (o := 0) hT1.2.1 rfl; have py1 := cellOf (o := 1) hT1.2.1 rfl; have py2 := cellOf (o := 2) hT1.2.1 rfl; have py3 := cellOf (o := 3) hT1.2.1 rfl; have py4 := cellOf (o := 4) hT1.2.1 rfl; have py5 := cellOf (o := 5) hT1.2.1 rfl
          have HT := Lib.hid hT1
          clear hT1 HS))
      | (go_at_call 46
         (refine (HNA.out _ HT.out).mono ?_
          rintro e w7 ⟨rfl, hT1⟩
          have px0 := cellOf (o := 0) hT1.1 rfl; have px1 := cellOf (o := 1) hT1.1 rfl; have px2 := cellOf (o := 2) hT1.1 rfl; have px3 := cellOf (o := 3) hT1.1 rfl; have px4 := cellOf (o := 4) hT1.1 rfl; have px5 := cellOf (o := 5) hT1.1 rfl
          have py0 := cellOf (o := 0) hT1.2.1 rfl; have py1 := cellOf (o := 1) hT1.2.1 rfl; have py2 := cellOf (o := 2) hT1.2.1 rfl; have py3 := cellOf (o := 3) hT1.2.1 rfl; have py4 := cellOf (o := 4) hT1.2.1 rfl; have py5 := cellOf (o := 5) hT1.2.1 rfl
          have HT := Lib.hid hT1
          clear hT1 HNA))
      | (go_at_call 46
         (refine (HNB.out _ HT.out).mono ?_
          rintro e w8 ⟨rfl, hT1⟩
          have px0 := cellOf (o := 0) hT1.1 rfl; have px1 := cellOf (o := 1) hT1.1 rfl; have px2 := cellOf (o := 2) hT1.1 rfl; have px3 := cellOf (o := 3) hT1.1 rfl; have px4 := cellOf (o := 4) hT1.1 rfl; have px5 := cellOf (o := 5) hT1.1 rfl
          have py0 := cellOf (o := 0) hT1.2.1 rfl; have py1 := cellOf (o := 1) hT1.2.1 rfl; have py2 := cellOf (o := 2) hT1.2.1 rfl; have py3 := cellOf (o := 3) hT1.2.1 rfl; have py4 := cellOf (o := 4) hT1.2.1 rfl; have py5 := cellOf (o := 5) hT1.2.1 rfl
          have HT := Lib.hid hT1
          clear hT1 HNB))
      | (go_at_call 33; refine (num_any _ _).mono ?_; rintro e w' ⟨rfl, rfl⟩))
    have hU : TwoV w _ #[.int .i64 ka, .bool a.b, .int .i64 a.n, .string (strB a.text), .slice pk a.keys.length ck, .slice pl a.list.length cl] #[.int .i64 kb, .bool b.b, .int .i64 b.n, .string (strB b.text), .slice pk' b.keys.length ck', .slice pl' b.list.length cl'] := HT.out.below (Below.refl _ _).drew
    refine plain_region_draws (fun W => TwoV w W #[.int .i64 ka, .bool a.b, .int .i64 a.n, .string (strB a.text), .slice pk a.keys.length ck, .slice pl a.list.length cl] #[.int .i64 kb, .bool b.b, .int .i64 b.n, .string (strB b.text), .slice pk' b.keys.length ck', .slice pl' b.list.length cl']) (by kernel_rfl) hU (fun hU => ?_)
    refine take 0 74 (v := .agg #[.int .i64 ka, .bool a.b, .int .i64 a.n, .string (strB a.text), .slice pk a.keys.length ck, .slice pl a.list.length cl]) rfl rfl (by kernel_rfl) (by kernel_rfl) (by kernel_rfl) rfl (fun W hW => exec_load rfl rfl (get_val hW.1)) (by assumption) ?_
    simp only [Act.put, List.setIfInBounds_toArray, List.set_cons_zero, List.set_cons_succ]
    refine take 1 75 (v := .agg #[.int .i64 kb, .bool b.b, .int .i64 b.n, .string (strB b.text), .slice pk' b.keys.length ck', .slice pl' b.list.length cl']) rfl rfl (by kernel_rfl) (by kernel_rfl) (by kernel_rfl) rfl (fun W hW => exec_load rfl rfl (get_val hW.2.1)) (by assumption) ?_
    simp only [Act.put, List.setIfInBounds_toArray, List.set_cons_zero, List.set_cons_succ]
    refine take 3 77 (v := .agg #[.int .i64 kb, .bool b.b, .int .i64 b.n, .string (strB b.text), .slice pk' b.keys.length ck', .slice pl' b.list.length cl']) rfl rfl (by kernel_rfl) (by kernel_rfl) (by kernel_rfl) rfl (fun W hW => exec_load rfl rfl (get_val hW.2.1)) (by assumption) ?_
    simp only [Act.put, List.setIfInBounds_toArray, List.set_cons_zero, List.set_cons_succ]
    refine take 4 78 (v := .agg #[.int .i64 ka, .bool a.b, .int .i64 a.n, .string (strB a.text), .slice pk a.keys.length ck, .slice pl a.list.length cl]) rfl rfl (by kernel_rfl) (by kernel_rfl) (by kernel_rfl) rfl (fun W hW => exec_load rfl rfl (get_val hW.1)) (by assumption) ?_
    simp only [Act.put, List.setIfInBounds_toArray, List.set_cons_zero, List.set_cons_succ]
    refine onlyCall 2 76 rfl rfl (by kernel_rfl) rfl (exec_call [.agg #[.int .i64 ka, .bool a.b, .int .i64 a.n, .string (strB a.text), .slice pk a.keys.length ck, .slice pl a.list.length cl], .agg #[.int .i64 kb, .bool b.b, .int .i64 b.n, .string (strB b.text), .slice pk' b.keys.length ck', .slice pl' b.list.length cl']] rfl rfl Tryz.func26 (by kernel_rfl) (by kernel_rfl)) ?_
    refine (HL1.out _ hU).mono ?_
    rintro e w' ⟨rfl, hU⟩
    refine ⟨_, rfl, .inr (by assumption), ?_⟩
    simp only [Act.put, List.setIfInBounds_toArray, List.set_cons_zero, List.set_cons_succ]
    refine onlyCall 5 79 rfl rfl (by kernel_rfl) rfl (exec_call [.agg #[.int .i64 kb, .bool b.b, .int .i64 b.n, .string (strB b.text), .slice pk' b.keys.length ck', .slice pl' b.list.length cl'], .agg #[.int .i64 ka, .bool a.b, .int .i64 a.n, .string (strB a.text), .slice pk a.keys.length ck, .slice pl a.list.length cl]] rfl rfl Tryz.func26 (by kernel_rfl) (by kernel_rfl)) ?_
    refine (HL2.out _ hU).mono ?_
    rintro e w' ⟨rfl, hU⟩
    refine ⟨_, rfl, .inr (by assumption), ?_⟩
    simp only [Act.put, List.setIfInBounds_toArray, List.set_cons_zero, List.set_cons_succ]
    refine take 6 7 (v := .int .i64 0) rfl rfl (by kernel_rfl) (by kernel_rfl) (by kernel_rfl) rfl (fun W hW => exec_assign rfl rfl) (by assumption) ?_
    simp only [Act.put, List.setIfInBounds_toArray, List.set_cons_zero, List.set_cons_succ]
    refine take 7 8 (v := .int .i64 0) rfl rfl (by kernel_rfl) (by kernel_rfl) (by kernel_rfl) rfl (fun W hW => exec_assign rfl rfl) (by assumption) ?_
    simp only [Act.put, List.setIfInBounds_toArray, List.set_cons_zero, List.set_cons_succ]
    refine done (by kernel_rfl) ?_ _
    have HT := Lib.hid hU
    have px0 := cellOf (o := 0) hU.1 rfl; have px1 := cellOf (o := 1) hU.1 rfl; have px2 := cellOf (o := 2) hU.1 rfl; have px3 := cellOf (o := 3) hU.1 rfl; have px4 := cellOf (o := 4) hU.1 rfl; have px5 := cellOf (o := 5) hU.1 rfl
    have py0 := cellOf (o := 0) hU.2.1 rfl; have py1 := cellOf (o := 1) hU.2.1 rfl; have py2 := cellOf (o := 2) hU.2.1 rfl; have py3 := cellOf (o := 3) hU.2.1 rfl; have py4 := cellOf (o := 4) hU.2.1 rfl; have py5 := cellOf (o := 5) hU.2.1 rfl
    clear hU
    go_wp2_with (
      first
      | (go_at_call 16
         (refine (HWK.out _ HT.out).mono ?_
          rintro e w9 ⟨rfl, hT1⟩
          have px0 := cellOf (o := 0) hT1.1 rfl; have px1 := cellOf (o := 1) hT1.1 rfl; have px2 := cellOf (o := 2) hT1.1 rfl; have px3 := cellOf (o := 3) hT1.1 rfl; have px4 := cellOf (o := 4) hT1.1 rfl; have px5 := cellOf (o := 5) hT1.1 rfl
          have py0 := cellOf (o := 0) hT1.2.1 rfl; have py1 := cellOf (o := 1) hT1.2.1 rfl; have py2 := cellOf (o := 2) hT1.2.1 rfl; have py3 := cellOf (o := 3) hT1.2.1 rfl; have py4 := cellOf (o := 4) hT1.2.1 rfl; have py5 := cellOf (o := 5) hT1.2.1 rfl
          have HT := Lib.hid hT1
          clear hT1)))
    go_ret
    exact ⟨rfl, HT.out.2.2⟩
set_option maxRecDepth 100000 in
set_option maxHeartbeats 8000000 in
theorem equal_gt {w : World} {a b : V} {pk pk' pl pl' : Option Addr} {ck ck' cl cl' : Nat}
    (HSM : Hid (Calls Tryz.prog 15 #[.slice (some ⟨w.heap.size + 1 + 1, 0, none⟩) 2 2] (((w.alloc (.cells #[.int .i64 a.kind, .bool a.b, .int .i64 a.n, .string (strB a.text), .slice pk a.keys.length ck, .slice pl a.list.length cl] 26)).alloc (.cells #[.int .i64 b.kind, .bool b.b, .int .i64 b.n, .string (strB b.text), .slice pk' b.keys.length ck', .slice pl' b.list.length cl'] 26)).alloc (.cells #[.int .i64 a.kind, .bool a.b, .int .i64 a.n, .string (strB a.text), .slice pk a.keys.length ck, .slice pl a.list.length cl, .int .i64 b.kind, .bool b.b, .int .i64 b.n, .string (strB b.text), .slice pk' b.keys.length ck', .slice pl' b.list.length cl'] 26)) fun e w' => e = .returned (.bool true) ∧ TwoV w w' #[.int .i64 a.kind, .bool a.b, .int .i64 a.n, .string (strB a.text), .slice pk a.keys.length ck, .slice pl a.list.length cl] #[.int .i64 b.kind, .bool b.b, .int .i64 b.n, .string (strB b.text), .slice pk' b.keys.length ck', .slice pl' b.list.length cl']))
    (HQ : Hid (Eqs w #[.int .i64 a.kind, .bool a.b, .int .i64 a.n, .string (strB a.text), .slice pk a.keys.length ck, .slice pl a.list.length cl] #[.int .i64 b.kind, .bool b.b, .int .i64 b.n, .string (strB b.text), .slice pk' b.keys.length ck', .slice pl' b.list.length cl'] a b 0 false false false 0 2)) (hk : a.kind = b.kind) (h3 : a.kind = 1 ∨ a.kind = 2 ∨ a.kind = 3) :
    Calls Tryz.prog 8 #[.agg #[.int .i64 a.kind, .bool a.b, .int .i64 a.n, .string (strB a.text), .slice pk a.keys.length ck, .slice pl a.list.length cl], .agg #[.int .i64 b.kind, .bool b.b, .int .i64 b.n, .string (strB b.text), .slice pk' b.keys.length ck', .slice pl' b.list.length cl']] w fun e w' => e = .returned (.bool true) ∧ Below w.heap.size w w' := by
  have hk2 : (a.kind == b.kind) = true ∧ ((a.kind == 1) = true ∧ (a.kind == 2) = false ∧ (a.kind == 3) = false ∨ (a.kind == 2) = true ∨ (a.kind == 2) = false ∧ (a.kind == 3) = true) := by
    refine ⟨by rw [beq_iff_eq]; exact hk, ?_⟩
    rcases h3 with e | e | e <;> rw [e] <;> simp
  generalize a.kind = ka at *
  generalize b.kind = kb at *
  clear hk h3
  obtain ⟨dk, hk2⟩ := hk2
  rcases hk2 with ⟨d1, d2, d3⟩ | d2 | ⟨d2, d3⟩
  all_goals
    have HCA := Lib.hid HQ.out.ca
    have HCB := Lib.hid HQ.out.cb
    have HE1 := Lib.hid HQ.out.e1
    have HE2 := Lib.hid HQ.out.e2
    have HS := Lib.hid HQ.out.s
    have HNA := Lib.hid HQ.out.na
    have HNB := Lib.hid HQ.out.nb
    have HL1 := Lib.hid HQ.out.l1
    have HL2 := Lib.hid HQ.out.l2
    have HWK := Lib.hid HQ.out.wk
    go_enter Tryz.func8, Tryz.ntmps8
    go_wp2_with (first
      | (go_at_call 15
         (refine (HSM.out).mono ?_
          rintro e w1 ⟨rfl, hT1⟩
          have px0 := cellOf (o := 0) hT1.1 rfl; have px1 := cellOf (o := 1) hT1.1 rfl; have px2 := cellOf (o := 2) hT1.1 rfl; have px3 := cellOf (o := 3) hT1.1 rfl; have px4 := cellOf (o := 4) hT1.1 rfl; have px5 := cellOf (o := 5) hT1.1 rfl
          have py0 := cellOf (o := 0) hT1.2.1 rfl; have py1 := cellOf (o := 1) hT1.2.1 rfl; have py2 := cellOf (o := 2) hT1.2.1 rfl; have py3 := cellOf (o := 3) hT1.2.1 rfl; have py4 := cellOf (o := 4) hT1.2.1 rfl; have py5 := cellOf (o := 5) hT1.2.1 rfl
          have HT := Lib.hid hT1
          clear hT1))
      | (go_at_call 45
         (refine (HCA.out _ HT.out).mono ?_
          rintro e w2 ⟨rfl, hT1⟩
          have px0 := cellOf (o := 0) hT1.1 rfl; have px1 := cellOf (o := 1) hT1.1 rfl; have px2 := cellOf (o := 2) hT1.1 rfl; have px3 := cellOf (o := 3) hT1.1 rfl; have px4 := cellOf (o := 4) hT1.1 rfl; have px5 := cellOf (o := 5) hT1.1 rfl
          have py0 := cellOf (o := 0) hT1.2.1 rfl; have py1 := cellOf (o := 1) hT1.2.1 rfl; have py2 := cellOf (o := 2) hT1.2.1 rfl; have py3 := cellOf (o := 3) hT1.2.1 rfl; have py4 := cellOf (o := 4) hT1.2.1 rfl; have py5 := cellOf (o := 5) hT1.2.1 rfl
          have HT := Lib.hid hT1
          clear hT1 HCA))
      | (go_at_call 45
         (refine (HCB.out _ HT.out).mono ?_
          rintro e w3 ⟨rfl, hT1⟩
          have px0 := cellOf (o := 0) hT1.1 rfl; have px1 := cellOf (o := 1) hT1.1 rfl; have px2 := cellOf (o := 2) hT1.1 rfl; have px3 := cellOf (o := 3) hT1.1 rfl; have px4 := cellOf (o := 4) hT1.1 rfl; have px5 := cellOf (o := 5) hT1.1 rfl
          have py0 := cellOf (o := 0) hT1.2.1 rfl; have py1 := cellOf (o := 1) hT1.2.1 rfl; have py2 := cellOf (o := 2) hT1.2.1 rfl; have py3 := cellOf (o := 3) hT1.2.1 rfl; have py4 := cellOf (o := 4) hT1.2.1 rfl; have py5 := cellOf (o := 5) hT1.2.1 rfl
          have HT := Lib.hid hT1
          clear hT1 HCB))
      | (go_at_call 25
         (refine (HE1.out _ HT.out).mono ?_
          rintro e w4 ⟨rfl, hT1⟩
          have px0 := cellOf (o := 0) hT1.1 rfl; have px1 := cellOf (o := 1) hT1.1 rfl; have px2 := cellOf (o := 2) hT1.1 rfl; have px3 := cellOf (o := 3) hT1.1 rfl; have px4 := cellOf (o := 4) hT1.1 rfl; have px5 := cellOf (o := 5) hT1.1 rfl
          have py0 := cellOf (o := 0) hT1.2.1 rfl; have py1 := cellOf (o := 1) hT1.2.1 rfl; have py2 := cellOf (o := 2) hT1.2.1 rfl; have py3 := cellOf (o := 3) hT1.2.1 rfl; have py4 := cellOf (o := 4) hT1.2.1 rfl; have py5 := cellOf (o := 5) hT1.2.1 rfl
          have HT := Lib.hid hT1
          clear hT1 HE1))
      | (go_at_call 25
         (refine (HE2.out _ HT.out).mono ?_
          rintro e w5 ⟨rfl, hT1⟩
          have px0 := cellOf (o := 0) hT1.1 rfl; have px1 := cellOf (o := 1) hT1.1 rfl; have px2 := cellOf (o := 2) hT1.1 rfl; have px3 := cellOf (o := 3) hT1.1 rfl; have px4 := cellOf (o := 4) hT1.1 rfl; have px5 := cellOf (o := 5) hT1.1 rfl
          have py0 := cellOf (o := 0) hT1.2.1 rfl; have py1 := cellOf (o := 1) hT1.2.1 rfl; have py2 := cellOf (o := 2) hT1.2.1 rfl; have py3 := cellOf (o := 3) hT1.2.1 rfl; have py4 := cellOf (o := 4) hT1.2.1 rfl; have py5 := cellOf (o := 5) hT1.2.1 rfl
          have HT := Lib.hid hT1
          clear hT1 HE2))
      | (go_at_call 21
         (refine (HS.out _ HT.out).mono ?_
          rintro e w6 ⟨rfl, hT1⟩
          have px0 := cellOf (o := 0) hT1.1 rfl; have px1 := cellOf (o := 1) hT1.1 rfl; have px2 := cellOf (o := 2) hT1.1 rfl; have px3 := cellOf (o := 3) hT1.1 rfl; have px4 := cellOf (o := 4) hT1.1 rfl; have px5 := cellOf (o := 5) hT1.1 rfl
          have py0 := cellOf (o := 0) hT1.2.1 rfl; have py1 := cellOf (o := 1) hT1.2.1 rfl; have py2 := cellOf (o := 2) hT1.2.1 rfl; have py3 := cellOf (o := 3) hT1.2.1 rfl; have py4 := cellOf (o := 4) hT1.2.1 rfl; have py5 := cellOf (o := 5) hT1.2.1 rfl
          have HT := Lib.hid hT1
          clear hT1 HS))
      | (go_at_call 46
         (refine (HNA.out _ HT.out).mono ?_
          rintro e w7 ⟨rfl, hT1⟩
          have px0 := cellOf (o := 0) hT1.1 rfl; have px1 := cellOf (o := 1) hT1.1 rfl; have px2 := cellOf (o := 2) hT1.1 rfl; have px3 := cellOf (o := 3) hT1.1 rfl; have px4 := cellOf (o := 4) hT1.1 rfl; have px5 := cellOf (o := 5) hT1.1 rfl
          have py0 := cellOf (o := 0) hT1.2.1 rfl; have py1 := cellOf (o := 1) hT1.2.1 rfl; have py2 := cellOf (o := 2) hT1.2.1 rfl; have py3 := cellOf (o := 3) hT1.2.1 rfl; have py4 := cellOf (o := 4) hT1.2.1 rfl; have py5 := cellOf (o := 5) hT1.2.1 rfl
          have HT := Lib.hid hT1
          clear hT1 HNA))
      | (go_at_call 46
         (refine (HNB.out _ HT.out).mono ?_
          rintro e w8 ⟨rfl, hT1⟩
          have px0 := cellOf (o := 0) hT1.1 rfl; have px1 := cellOf (o := 1) hT1.1 rfl; have px2 := cellOf (o := 2) hT1.1 rfl; have px3 := cellOf (o := 3) hT1.1 rfl; have px4 := cellOf (o := 4) hT1.1 rfl; have px5 := cellOf (o := 5) hT1.1 rfl
          have py0 := cellOf (o := 0) hT1.2.1 rfl; have py1 := cellOf (o := 1) hT1.2.1 rfl; have py2 := cellOf (o := 2) hT1.2.1 rfl; have py3 := cellOf (o := 3) hT1.2.1 rfl; have py4 := cellOf (o := 4) hT1.2.1 rfl; have py5 := cellOf (o := 5) hT1.2.1 rfl
          have HT := Lib.hid hT1
          clear hT1 HNB))
      | (go_at_call 33; refine (num_any _ _).mono ?_; rintro e w' ⟨rfl, rfl⟩))
    have hU : TwoV w _ #[.int .i64 ka, .bool a.b, .int .i64 a.n, .string (strB a.text), .slice pk a.keys.length ck, .slice pl a.list.length cl] #[.int .i64 kb, .bool b.b, .int .i64 b.n, .string (strB b.text), .slice pk' b.keys.length ck', .slice pl' b.list.length cl'] := HT.out.below (Below.refl _ _).drew
    refine plain_region_draws (fun W => TwoV w W #[.int .i64 ka, .bool a.b, .int .i64 a.n, .string (strB a.text), .slice pk a.keys.length ck, .slice pl a.list.length cl] #[.int .i64 kb, .bool b.b, .int .i64 b.n, .string (strB b.text), .slice pk' b.keys.length ck', .slice pl' b.list.length cl']) (by kernel_rfl) hU (fun hU => ?_)
    refine take 0 74 (v := .agg #[.int .i64 ka, .bool a.b, .int .i64 a.n, .string (strB a.text), .slice pk a.keys.length ck, .slice pl a.list.length cl]) rfl rfl (by kernel_rfl) (by kernel_rfl) (by kernel_rfl) rfl (fun W hW => exec_load rfl rfl (get_val hW.1)) (by assumption) ?_
    simp only [Act.put, List.setIfInBounds_toArray, List.set_cons_zero, List.set_cons_succ]
    refine take 1 75 (v := .agg #[.int .i64 kb, .bool b.b, .int .i64 b.n, .string (strB b.text), .slice pk' b.keys.length ck', .slice pl' b.list.length cl']) rfl rfl (by kernel_rfl) (by kernel_rfl) (by kernel_rfl) rfl (fun W hW => exec_load rfl rfl (get_val hW.2.1)) (by assumption) ?_
    simp only [Act.put, List.setIfInBounds_toArray, List.set_cons_zero, List.set_cons_succ]
    refine take 3 77 (v := .agg #[.int .i64 kb, .bool b.b, .int .i64 b.n, .string (strB b.text), .slice pk' b.keys.length ck', .slice pl' b.list.length cl']) rfl rfl (by kernel_rfl) (by kernel_rfl) (by kernel_rfl) rfl (fun W hW => exec_load rfl rfl (get_val hW.2.1)) (by assumption) ?_
    simp only [Act.put, List.setIfInBounds_toArray, List.set_cons_zero, List.set_cons_succ]
    refine take 4 78 (v := .agg #[.int .i64 ka, .bool a.b, .int .i64 a.n, .string (strB a.text), .slice pk a.keys.length ck, .slice pl a.list.length cl]) rfl rfl (by kernel_rfl) (by kernel_rfl) (by kernel_rfl) rfl (fun W hW => exec_load rfl rfl (get_val hW.1)) (by assumption) ?_
    simp only [Act.put, List.setIfInBounds_toArray, List.set_cons_zero, List.set_cons_succ]
    refine onlyCall 2 76 rfl rfl (by kernel_rfl) rfl (exec_call [.agg #[.int .i64 ka, .bool a.b, .int .i64 a.n, .string (strB a.text), .slice pk a.keys.length ck, .slice pl a.list.length cl], .agg #[.int .i64 kb, .bool b.b, .int .i64 b.n, .string (strB b.text), .slice pk' b.keys.length ck', .slice pl' b.list.length cl']] rfl rfl Tryz.func26 (by kernel_rfl) (by kernel_rfl)) ?_
    refine (HL1.out _ hU).mono ?_
    rintro e w' ⟨rfl, hU⟩
    refine ⟨_, rfl, .inr (by assumption), ?_⟩
    simp only [Act.put, List.setIfInBounds_toArray, List.set_cons_zero, List.set_cons_succ]
    refine onlyCall 5 79 rfl rfl (by kernel_rfl) rfl (exec_call [.agg #[.int .i64 kb, .bool b.b, .int .i64 b.n, .string (strB b.text), .slice pk' b.keys.length ck', .slice pl' b.list.length cl'], .agg #[.int .i64 ka, .bool a.b, .int .i64 a.n, .string (strB a.text), .slice pk a.keys.length ck, .slice pl a.list.length cl]] rfl rfl Tryz.func26 (by kernel_rfl) (by kernel_rfl)) ?_
    refine (HL2.out _ hU).mono ?_
    rintro e w' ⟨rfl, hU⟩
    refine ⟨_, rfl, .inr (by assumption), ?_⟩
    simp only [Act.put, List.setIfInBounds_toArray, List.set_cons_zero, List.set_cons_succ]
    refine take 6 7 (v := .int .i64 0) rfl rfl (by kernel_rfl) (by kernel_rfl) (by kernel_rfl) rfl (fun W hW => exec_assign rfl rfl) (by assumption) ?_
    simp only [Act.put, List.setIfInBounds_toArray, List.set_cons_zero, List.set_cons_succ]
    refine take 7 8 (v := .int .i64 2) rfl rfl (by kernel_rfl) (by kernel_rfl) (by kernel_rfl) rfl (fun W hW => exec_assign rfl rfl) (by assumption) ?_
    simp only [Act.put, List.setIfInBounds_toArray, List.set_cons_zero, List.set_cons_succ]
    refine done (by kernel_rfl) ?_ _
    have HT := Lib.hid hU
    have px0 := cellOf (o := 0) hU.1 rfl; have px1 := cellOf (o := 1) hU.1 rfl; have px2 := cellOf (o := 2) hU.1 rfl; have px3 := cellOf (o := 3) hU.1 rfl; have px4 := cellOf (o := 4) hU.1 rfl; have px5 := cellOf (o := 5) hU.1 rfl
    have py0 := cellOf (o := 0) hU.2.1 rfl; have py1 := cellOf (o := 1) hU.2.1 rfl; have py2 := cellOf (o := 2) hU.2.1 rfl; have py3 := cellOf (o := 3) hU.2.1 rfl; have py4 := cellOf (o := 4) hU.2.1 rfl; have py5 := cellOf (o := 5) hU.2.1 rfl
    clear hU
    go_wp2_with (
      first
      | (go_at_call 16
         (refine (HWK.out _ HT.out).mono ?_
          rintro e w9 ⟨rfl, hT1⟩
          have px0 := cellOf (o := 0) hT1.1 rfl; have px1 := cellOf (o := 1) hT1.1 rfl; have px2 := cellOf (o := 2) hT1.1 rfl; have px3 := cellOf (o := 3) hT1.1 rfl; have px4 := cellOf (o := 4) hT1.1 rfl; have px5 := cellOf (o := 5) hT1.1 rfl
          have py0 := cellOf (o := 0) hT1.2.1 rfl; have py1 := cellOf (o := 1) hT1.2.1 rfl; have py2 := cellOf (o := 2) hT1.2.1 rfl; have py3 := cellOf (o := 3) hT1.2.1 rfl; have py4 := cellOf (o := 4) hT1.2.1 rfl; have py5 := cellOf (o := 5) hT1.2.1 rfl
          have HT := Lib.hid hT1
          clear hT1)))
    go_ret
    exact ⟨rfl, HT.out.2.2⟩
set_option maxRecDepth 100000 in
set_option maxHeartbeats 8000000 in
theorem equal_no {w : World} {a b : V} {na : Bool} {nb : Bool} {pk pk' pl pl' : Option Addr} {ck ck' cl cl' : Nat}
    (HSM : Hid (Calls Tryz.prog 15 #[.slice (some ⟨w.heap.size + 1 + 1, 0, none⟩) 2 2] (((w.alloc (.cells #[.int .i64 a.kind, .bool a.b, .int .i64 a.n, .string (strB a.text), .slice pk a.keys.length ck, .slice pl a.list.length cl] 26)).alloc (.cells #[.int .i64 b.kind, .bool b.b, .int .i64 b.n, .string (strB b.text), .slice pk' b.keys.length ck', .slice pl' b.list.length cl'] 26)).alloc (.cells #[.int .i64 a.kind, .bool a.b, .int .i64 a.n, .string (strB a.text), .slice pk a.keys.length ck, .slice pl a.list.length cl, .int .i64 b.kind, .bool b.b, .int .i64 b.n, .string (strB b.text), .slice pk' b.keys.length ck', .slice pl' b.list.length cl'] 26)) fun e w' => e = .returned (.bool true) ∧ TwoV w w' #[.int .i64 a.kind, .bool a.b, .int .i64 a.n, .string (strB a.text), .slice pk a.keys.length ck, .slice pl a.list.length cl] #[.int .i64 b.kind, .bool b.b, .int .i64 b.n, .string (strB b.text), .slice pk' b.keys.length ck', .slice pl' b.list.length cl']))
    (HQ : Hid (Eqs w #[.int .i64 a.kind, .bool a.b, .int .i64 a.n, .string (strB a.text), .slice pk a.keys.length ck, .slice pl a.list.length cl] #[.int .i64 b.kind, .bool b.b, .int .i64 b.n, .string (strB b.text), .slice pk' b.keys.length ck', .slice pl' b.list.length cl'] a b 0 false na nb 1 1)) (hk : ¬ (a.kind = b.kind ∧ (a.kind = 1 ∨ a.kind = 2 ∨ a.kind = 3))) :
    Calls Tryz.prog 8 #[.agg #[.int .i64 a.kind, .bool a.b, .int .i64 a.n, .string (strB a.text), .slice pk a.keys.length ck, .slice pl a.list.length cl], .agg #[.int .i64 b.kind, .bool b.b, .int .i64 b.n, .string (strB b.text), .slice pk' b.keys.length ck', .slice pl' b.list.length cl']] w fun e w' => e = .returned (.bool true) ∧ Below w.heap.size w w' := by
  have hk2 : ((a.kind == b.kind) = true ∧ (a.kind == 1) = false ∧ (a.kind == 2) = false ∧ (a.kind == 3) = false) ∨ (a.kind == b.kind) = false := by
    by_cases e : a.kind = b.kind
    · exact .inl ⟨by rw [beq_iff_eq]; exact e, by rw [beq_eq_false_iff_ne]; omega, by rw [beq_eq_false_iff_ne]; omega, by rw [beq_eq_false_iff_ne]; omega⟩
    · exact .inr (by rw [beq_eq_false_iff_ne]; exact e)
  generalize a.kind = ka at *
  generalize b.kind = kb at *
  clear hk
  rcases hk2 with ⟨dk, d1, d2, d3⟩ | dk
  all_goals cases na
  all_goals cases nb
  all_goals
    have HCA := Lib.hid HQ.out.ca
    have HCB := Lib.hid HQ.out.cb
    have HE1 := Lib.hid HQ.out.e1
    have HE2 := Lib.hid HQ.out.e2
    have HS := Lib.hid HQ.out.s
    have HNA := Lib.hid HQ.out.na
    have HNB := Lib.hid HQ.out.nb
    have HL1 := Lib.hid HQ.out.l1
    have HL2 := Lib.hid HQ.out.l2
    have HWK := Lib.hid HQ.out.wk
    go_enter Tryz.func8, Tryz.ntmps8
    go_wp2_with (first
      | (go_at_call 15
         (refine (HSM.out).mono ?_
          rintro e w1 ⟨rfl, hT1⟩
          have px0 := cellOf (o := 0) hT1.1 rfl; have px1 := cellOf (o := 1) hT1.1 rfl; have px2 := cellOf (o := 2) hT1.1 rfl; have px3 := cellOf (o := 3) hT1.1 rfl; have px4 := cellOf (o := 4) hT1.1 rfl; have px5 := cellOf (o := 5) hT1.1 rfl
          have py0 := cellOf (o := 0) hT1.2.1 rfl; have py1 := cellOf (o := 1) hT1.2.1 rfl; have py2 := cellOf (o := 2) hT1.2.1 rfl; have py3 := cellOf (o := 3) hT1.2.1 rfl; have py4 := cellOf (o := 4) hT1.2.1 rfl; have py5 := cellOf (o := 5) hT1.2.1 rfl
          have HT := Lib.hid hT1
          clear hT1))
      | (go_at_call 45
         (refine (HCA.out _ HT.out).mono ?_
          rintro e w2 ⟨rfl, hT1⟩
          have px0 := cellOf (o := 0) hT1.1 rfl; have px1 := cellOf (o := 1) hT1.1 rfl; have px2 := cellOf (o := 2) hT1.1 rfl; have px3 := cellOf (o := 3) hT1.1 rfl; have px4 := cellOf (o := 4) hT1.1 rfl; have px5 := cellOf (o := 5) hT1.1 rfl
          have py0 := cellOf (o := 0) hT1.2.1 rfl; have py1 := cellOf (o := 1) hT1.2.1 rfl; have py2 := cellOf (o := 2) hT1.2.1 rfl; have py3 := cellOf (o := 3) hT1.2.1 rfl; have py4 := cellOf (o := 4) hT1.2.1 rfl; have py5 := cellOf (o := 5) hT1.2.1 rfl
          have HT := Lib.hid hT1
          clear hT1 HCA))
      | (go_at_call 45
         (refine (HCB.out _ HT.out).mono ?_
          rintro e w3 ⟨rfl, hT1⟩
          have px0 := cellOf (o := 0) hT1.1 rfl; have px1 := cellOf (o := 1) hT1.1 rfl; have px2 := cellOf (o := 2) hT1.1 rfl; have px3 := cellOf (o := 3) hT1.1 rfl; have px4 := cellOf (o := 4) hT1.1 rfl; have px5 := cellOf (o := 5) hT1.1 rfl
          have py0 := cellOf (o := 0) hT1.2.1 rfl; have py1 := cellOf (o := 1) hT1.2.1 rfl; have py2 := cellOf (o := 2) hT1.2.1 rfl; have py3 := cellOf (o := 3) hT1.2.1 rfl; have py4 := cellOf (o := 4) hT1.2.1 rfl; have py5 := cellOf (o := 5) hT1.2.1 rfl
          have HT := Lib.hid hT1
          clear hT1 HCB))
      | (go_at_call 25
         (refine (HE1.out _ HT.out).mono ?_
          rintro e w4 ⟨rfl, hT1⟩
          have px0 := cellOf (o := 0) hT1.1 rfl; have px1 := cellOf (o := 1) hT1.1 rfl; have px2 := cellOf (o := 2) hT1.1 rfl; have px3 := cellOf (o := 3) hT1.1 rfl; have px4 := cellOf (o := 4) hT1.1 rfl; have px5 := cellOf (o := 5) hT1.1 rfl
          have py0 := cellOf (o := 0) hT1.2.1 rfl; have py1 := cellOf (o := 1) hT1.2.1 rfl; have py2 := cellOf (o := 2) hT1.2.1 rfl; have py3 := cellOf (o := 3) hT1.2.1 rfl; have py4 := cellOf (o := 4) hT1.2.1 rfl; have py5 := cellOf (o := 5) hT1.2.1 rfl
          have HT := Lib.hid hT1
          clear hT1 HE1))
      | (go_at_call 25
         (refine (HE2.out _ HT.out).mono ?_
          rintro e w5 ⟨rfl, hT1⟩
          have px0 := cellOf (o := 0) hT1.1 rfl; have px1 := cellOf (o := 1) hT1.1 rfl; have px2 := cellOf (o := 2) hT1.1 rfl; have px3 := cellOf (o := 3) hT1.1 rfl; have px4 := cellOf (o := 4) hT1.1 rfl; have px5 := cellOf (o := 5) hT1.1 rfl
          have py0 := cellOf (o := 0) hT1.2.1 rfl; have py1 := cellOf (o := 1) hT1.2.1 rfl; have py2 := cellOf (o := 2) hT1.2.1 rfl; have py3 := cellOf (o := 3) hT1.2.1 rfl; have py4 := cellOf (o := 4) hT1.2.1 rfl; have py5 := cellOf (o := 5) hT1.2.1 rfl
          have HT := Lib.hid hT1
          clear hT1 HE2))
      | (go_at_call 21
         (refine (HS.out _ HT.out).mono ?_
          rintro e w6 ⟨rfl, hT1⟩
          have px0 := cellOf (o := 0) hT1.1 rfl; have px1 := cellOf (o := 1) hT1.1 rfl; have px2 := cellOf (o := 2) hT1.1 rfl; have px3 := cellOf (o := 3) hT1.1 rfl; have px4 := cellOf (o := 4) hT1.1 rfl; have px5 := cellOf (o := 5) hT1.1 rfl
          have py0 := cellOf (o := 0) hT1.2.1 rfl; have py1 := cellOf (o := 1) hT1.2.1 rfl; have py2 := cellOf (o := 2) hT1.2.1 rfl; have py3 := cellOf (o := 3) hT1.2.1 rfl; have py4 := cellOf (o := 4) hT1.2.1 rfl; have py5 := cellOf (o := 5) hT1.2.1 rfl
          have HT := Lib.hid hT1
          clear hT1 HS))
      | (go_at_call 46
         (refine (HNA.out _ HT.out).mono ?_
          rintro e w7 ⟨rfl, hT1⟩
          have px0 := cellOf (o := 0) hT1.1 rfl; have px1 := cellOf (o := 1) hT1.1 rfl; have px2 := cellOf (o := 2) hT1.1 rfl; have px3 := cellOf (o := 3) hT1.1 rfl; have px4 := cellOf (o := 4) hT1.1 rfl; have px5 := cellOf (o := 5) hT1.1 rfl
          have py0 := cellOf (o := 0) hT1.2.1 rfl; have py1 := cellOf (o := 1) hT1.2.1 rfl; have py2 := cellOf (o := 2) hT1.2.1 rfl; have py3 := cellOf (o := 3) hT1.2.1 rfl; have py4 := cellOf (o := 4) hT1.2.1 rfl; have py5 := cellOf (o := 5) hT1.2.1 rfl
          have HT := Lib.hid hT1
          clear hT1 HNA))
      | (go_at_call 46
         (refine (HNB.out _ HT.out).mono ?_
          rintro e w8 ⟨rfl, hT1⟩
          have px0 := cellOf (o := 0) hT1.1 rfl; have px1 := cellOf (o := 1) hT1.1 rfl; have px2 := cellOf (o := 2) hT1.1 rfl; have px3 := cellOf (o := 3) hT1.1 rfl; have px4 := cellOf (o := 4) hT1.1 rfl; have px5 := cellOf (o := 5) hT1.1 rfl
          have py0 := cellOf (o := 0) hT1.2.1 rfl; have py1 := cellOf (o := 1) hT1.2.1 rfl; have py2 := cellOf (o := 2) hT1.2.1 rfl; have py3 := cellOf (o := 3) hT1.2.1 rfl; have py4 := cellOf (o := 4) hT1.2.1 rfl; have py5 := cellOf (o := 5) hT1.2.1 rfl
          have HT := Lib.hid hT1
          clear hT1 HNB))
      | (go_at_call 33; refine (num_any _ _).mono ?_; rintro e w' ⟨rfl, rfl⟩))
    have hU : TwoV w _ #[.int .i64 ka, .bool a.b, .int .i64 a.n, .string (strB a.text), .slice pk a.keys.length ck, .slice pl a.list.length cl] #[.int .i64 kb, .bool b.b, .int .i64 b.n, .string (strB b.text), .slice pk' b.keys.length ck', .slice pl' b.list.length cl'] := HT.out.below (Below.refl _ _).drew
    refine plain_region_draws (fun W => TwoV w W #[.int .i64 ka, .bool a.b, .int .i64 a.n, .string (strB a.text), .slice pk a.keys.length ck, .slice pl a.list.length cl] #[.int .i64 kb, .bool b.b, .int .i64 b.n, .string (strB b.text), .slice pk' b.keys.length ck', .slice pl' b.list.length cl']) (by kernel_rfl) hU (fun hU => ?_)
    refine take 0 74 (v := .agg #[.int .i64 ka, .bool a.b, .int .i64 a.n, .string (strB a.text), .slice pk a.keys.length ck, .slice pl a.list.length cl]) rfl rfl (by kernel_rfl) (by kernel_rfl) (by kernel_rfl) rfl (fun W hW => exec_load rfl rfl (get_val hW.1)) (by assumption) ?_
    simp only [Act.put, List.setIfInBounds_toArray, List.set_cons_zero, List.set_cons_succ]
    refine take 1 75 (v := .agg #[.int .i64 kb, .bool b.b, .int .i64 b.n, .string (strB b.text), .slice pk' b.keys.length ck', .slice pl' b.list.length cl']) rfl rfl (by kernel_rfl) (by kernel_rfl) (by kernel_rfl) rfl (fun W hW => exec_load rfl rfl (get_val hW.2.1)) (by assumption) ?_
    simp only [Act.put, List.setIfInBounds_toArray, List.set_cons_zero, List.set_cons_succ]
    refine take 3 77 (v := .agg #[.int .i64 kb, .bool b.b, .int .i64 b.n, .string (strB b.text), .slice pk' b.keys.length ck', .slice pl' b.list.length cl']) rfl rfl (by kernel_rfl) (by kernel_rfl) (by kernel_rfl) rfl (fun W hW => exec_load rfl rfl (get_val hW.2.1)) (by assumption) ?_
    simp only [Act.put, List.setIfInBounds_toArray, List.set_cons_zero, List.set_cons_succ]
    refine take 4 78 (v := .agg #[.int .i64 ka, .bool a.b, .int .i64 a.n, .string (strB a.text), .slice pk a.keys.length ck, .slice pl a.list.length cl]) rfl rfl (by kernel_rfl) (by kernel_rfl) (by kernel_rfl) rfl (fun W hW => exec_load rfl rfl (get_val hW.1)) (by assumption) ?_
    simp only [Act.put, List.setIfInBounds_toArray, List.set_cons_zero, List.set_cons_succ]
    refine onlyCall 2 76 rfl rfl (by kernel_rfl) rfl (exec_call [.agg #[.int .i64 ka, .bool a.b, .int .i64 a.n, .string (strB a.text), .slice pk a.keys.length ck, .slice pl a.list.length cl], .agg #[.int .i64 kb, .bool b.b, .int .i64 b.n, .string (strB b.text), .slice pk' b.keys.length ck', .slice pl' b.list.length cl']] rfl rfl Tryz.func26 (by kernel_rfl) (by kernel_rfl)) ?_
    refine (HL1.out _ hU).mono ?_
    rintro e w' ⟨rfl, hU⟩
    refine ⟨_, rfl, .inr (by assumption), ?_⟩
    simp only [Act.put, List.setIfInBounds_toArray, List.set_cons_zero, List.set_cons_succ]
    refine onlyCall 5 79 rfl rfl (by kernel_rfl) rfl (exec_call [.agg #[.int .i64 kb, .bool b.b, .int .i64 b.n, .string (strB b.text), .slice pk' b.keys.length ck', .slice pl' b.list.length cl'], .agg #[.int .i64 ka, .bool a.b, .int .i64 a.n, .string (strB a.text), .slice pk a.keys.length ck, .slice pl a.list.length cl]] rfl rfl Tryz.func26 (by kernel_rfl) (by kernel_rfl)) ?_
    refine (HL2.out _ hU).mono ?_
    rintro e w' ⟨rfl, hU⟩
    refine ⟨_, rfl, .inr (by assumption), ?_⟩
    simp only [Act.put, List.setIfInBounds_toArray, List.set_cons_zero, List.set_cons_succ]
    refine take 6 7 (v := .int .i64 1) rfl rfl (by kernel_rfl) (by kernel_rfl) (by kernel_rfl) rfl (fun W hW => exec_assign rfl rfl) (by assumption) ?_
    simp only [Act.put, List.setIfInBounds_toArray, List.set_cons_zero, List.set_cons_succ]
    refine take 7 8 (v := .int .i64 1) rfl rfl (by kernel_rfl) (by kernel_rfl) (by kernel_rfl) rfl (fun W hW => exec_assign rfl rfl) (by assumption) ?_
    simp only [Act.put, List.setIfInBounds_toArray, List.set_cons_zero, List.set_cons_succ]
    refine done (by kernel_rfl) ?_ _
    have HT := Lib.hid hU
    have px0 := cellOf (o := 0) hU.1 rfl; have px1 := cellOf (o := 1) hU.1 rfl; have px2 := cellOf (o := 2) hU.1 rfl; have px3 := cellOf (o := 3) hU.1 rfl; have px4 := cellOf (o := 4) hU.1 rfl; have px5 := cellOf (o := 5) hU.1 rfl
    have py0 := cellOf (o := 0) hU.2.1 rfl; have py1 := cellOf (o := 1) hU.2.1 rfl; have py2 := cellOf (o := 2) hU.2.1 rfl; have py3 := cellOf (o := 3) hU.2.1 rfl; have py4 := cellOf (o := 4) hU.2.1 rfl; have py5 := cellOf (o := 5) hU.2.1 rfl
    clear hU
    go_wp2_with (
      first
      | (go_at_call 16
         (refine (HWK.out _ HT.out).mono ?_
          rintro e w9 ⟨rfl, hT1⟩
          have px0 := cellOf (o := 0) hT1.1 rfl; have px1 := cellOf (o := 1) hT1.1 rfl; have px2 := cellOf (o := 2) hT1.1 rfl; have px3 := cellOf (o := 3) hT1.1 rfl; have px4 := cellOf (o := 4) hT1.1 rfl; have px5 := cellOf (o := 5) hT1.1 rfl
          have py0 := cellOf (o := 0) hT1.2.1 rfl; have py1 := cellOf (o := 1) hT1.2.1 rfl; have py2 := cellOf (o := 2) hT1.2.1 rfl; have py3 := cellOf (o := 3) hT1.2.1 rfl; have py4 := cellOf (o := 4) hT1.2.1 rfl; have py5 := cellOf (o := 5) hT1.2.1 rfl
          have HT := Lib.hid hT1
          clear hT1)))
    go_ret
    exact ⟨rfl, HT.out.2.2⟩
set_option maxRecDepth 100000 in
set_option maxHeartbeats 8000000 in
theorem equal_yes {w : World} {a b : V} {na : Bool} {nb : Bool} {pk pk' pl pl' : Option Addr} {ck ck' cl cl' : Nat}
    (HSM : Hid (Calls Tryz.prog 15 #[.slice (some ⟨w.heap.size + 1 + 1, 0, none⟩) 2 2] (((w.alloc (.cells #[.int .i64 a.kind, .bool a.b, .int .i64 a.n, .string (strB a.text), .slice pk a.keys.length ck, .slice pl a.list.length cl] 26)).alloc (.cells #[.int .i64 b.kind, .bool b.b, .int .i64 b.n, .string (strB b.text), .slice pk' b.keys.length ck', .slice pl' b.list.length cl'] 26)).alloc (.cells #[.int .i64 a.kind, .bool a.b, .int .i64 a.n, .string (strB a.text), .slice pk a.keys.length ck, .slice pl a.list.length cl, .int .i64 b.kind, .bool b.b, .int .i64 b.n, .string (strB b.text), .slice pk' b.keys.length ck', .slice pl' b.list.length cl'] 26)) fun e w' => e = .returned (.bool true) ∧ TwoV w w' #[.int .i64 a.kind, .bool a.b, .int .i64 a.n, .string (strB a.text), .slice pk a.keys.length ck, .slice pl a.list.length cl] #[.int .i64 b.kind, .bool b.b, .int .i64 b.n, .string (strB b.text), .slice pk' b.keys.length ck', .slice pl' b.list.length cl']))
    (HQ : Hid (Eqs w #[.int .i64 a.kind, .bool a.b, .int .i64 a.n, .string (strB a.text), .slice pk a.keys.length ck, .slice pl a.list.length cl] #[.int .i64 b.kind, .bool b.b, .int .i64 b.n, .string (strB b.text), .slice pk' b.keys.length ck', .slice pl' b.list.length cl'] a b 2 true na nb 1 1)) (hk : ¬ (a.kind = b.kind ∧ (a.kind = 1 ∨ a.kind = 2 ∨ a.kind = 3))) :
    Calls Tryz.prog 8 #[.agg #[.int .i64 a.kind, .bool a.b, .int .i64 a.n, .string (strB a.text), .slice pk a.keys.length ck, .slice pl a.list.length cl], .agg #[.int .i64 b.kind, .bool b.b, .int .i64 b.n, .string (strB b.text), .slice pk' b.keys.length ck', .slice pl' b.list.length cl']] w fun e w' => e = .returned (.bool true) ∧ Below w.heap.size w w' := by
  have hk2 : ((a.kind == b.kind) = true ∧ (a.kind == 1) = false ∧ (a.kind == 2) = false ∧ (a.kind == 3) = false) ∨ (a.kind == b.kind) = false := by
    by_cases e : a.kind = b.kind
    · exact .inl ⟨by rw [beq_iff_eq]; exact e, by rw [beq_eq_false_iff_ne]; omega, by rw [beq_eq_false_iff_ne]; omega, by rw [beq_eq_false_iff_ne]; omega⟩
    · exact .inr (by rw [beq_eq_false_iff_ne]; exact e)
  generalize a.kind = ka at *
  generalize b.kind = kb at *
  clear hk
  rcases hk2 with ⟨dk, d1, d2, d3⟩ | dk
  all_goals cases na
  all_goals cases nb
  all_goals
    have HCA := Lib.hid HQ.out.ca
    have HCB := Lib.hid HQ.out.cb
    have HE1 := Lib.hid HQ.out.e1
    have HE2 := Lib.hid HQ.out.e2
    have HS := Lib.hid HQ.out.s
    have HNA := Lib.hid HQ.out.na
    have HNB := Lib.hid HQ.out.nb
    have HL1 := Lib.hid HQ.out.l1
    have HL2 := Lib.hid HQ.out.l2
    have HWK := Lib.hid HQ.out.wk
    go_enter Tryz.func8, Tryz.ntmps8
    go_wp2_with (first
      | (go_at_call 15
         (refine (HSM.out).mono ?_
          rintro e w1 ⟨rfl, hT1⟩
          have px0 := cellOf (o := 0) hT1.1 rfl; have px1 := cellOf (o := 1) hT1.1 rfl; have px2 := cellOf (o := 2) hT1.1 rfl; have px3 := cellOf (o := 3) hT1.1 rfl; have px4 := cellOf (o := 4) hT1.1 rfl; have px5 := cellOf (o := 5) hT1.1 rfl
          have py0 := cellOf (o := 0) hT1.2.1 rfl; have py1 := cellOf (o := 1) hT1.2.1 rfl; have py2 := cellOf (o := 2) hT1.2.1 rfl; have py3 := cellOf (o := 3) hT1.2.1 rfl; have py4 := cellOf (o := 4) hT1.2.1 rfl; have py5 := cellOf (o := 5) hT1.2.1 rfl
          have HT := Lib.hid hT1
          clear hT1))
      | (go_at_call 45
         (refine (HCA.out _ HT.out).mono ?_
          rintro e w2 ⟨rfl, hT1⟩
          have px0 := cellOf (o := 0) hT1.1 rfl; have px1 := cellOf (o := 1) hT1.1 rfl; have px2 := cellOf (o := 2) hT1.1 rfl; have px3 := cellOf (o := 3) hT1.1 rfl; have px4 := cellOf (o := 4) hT1.1 rfl; have px5 := cellOf (o := 5) hT1.1 rfl
          have py0 := cellOf (o := 0) hT1.2.1 rfl; have py1 := cellOf (o := 1) hT1.2.1 rfl; have py2 := cellOf (o := 2) hT1.2.1 rfl; have py3 := cellOf (o := 3) hT1.2.1 rfl; have py4 := cellOf (o := 4) hT1.2.1 rfl; have py5 := cellOf (o := 5) hT1.2.1 rfl
          have HT := Lib.hid hT1
          clear hT1 HCA))
      | (go_at_call 45
         (refine (HCB.out _ HT.out).mono ?_
          rintro e w3 ⟨rfl, hT1⟩
          have px0 := cellOf (o := 0) hT1.1 rfl; have px1 := cellOf (o := 1) hT1.1 rfl; have px2 := cellOf (o := 2) hT1.1 rfl; have px3 := cellOf (o := 3) hT1.1 rfl; have px4 := cellOf (o := 4) hT1.1 rfl; have px5 := cellOf (o := 5) hT1.1 rfl
          have py0 := cellOf (o := 0) hT1.2.1 rfl; have py1 := cellOf (o := 1) hT1.2.1 rfl; have py2 := cellOf (o := 2) hT1.2.1 rfl; have py3 := cellOf (o := 3) hT1.2.1 rfl; have py4 := cellOf (o := 4) hT1.2.1 rfl; have py5 := cellOf (o := 5) hT1.2.1 rfl
          have HT := Lib.hid hT1
          clear hT1 HCB))
      | (go_at_call 25
         (refine (HE1.out _ HT.out).mono ?_
          rintro e w4 ⟨rfl, hT1⟩
          have px0 := cellOf (o := 0) hT1.1 rfl; have px1 := cellOf (o := 1) hT1.1 rfl; have px2 := cellOf (o := 2) hT1.1 rfl; have px3 := cellOf (o := 3) hT1.1 rfl; have px4 := cellOf (o := 4) hT1.1 rfl; have px5 := cellOf (o := 5) hT1.1 rfl
          have py0 := cellOf (o := 0) hT1.2.1 rfl; have py1 := cellOf (o := 1) hT1.2.1 rfl; have py2 := cellOf (o := 2) hT1.2.1 rfl; have py3 := cellOf (o := 3) hT1.2.1 rfl; have py4 := cellOf (o := 4) hT1.2.1 rfl; have py5 := cellOf (o := 5) hT1.2.1 rfl
          have HT := Lib.hid hT1
          clear hT1 HE1))
      | (go_at_call 25
         (refine (HE2.out _ HT.out).mono ?_
          rintro e w5 ⟨rfl, hT1⟩
          have px0 := cellOf (o := 0) hT1.1 rfl; have px1 := cellOf (o := 1) hT1.1 rfl; have px2 := cellOf (o := 2) hT1.1 rfl; have px3 := cellOf (o := 3) hT1.1 rfl; have px4 := cellOf (o := 4) hT1.1 rfl; have px5 := cellOf (o := 5) hT1.1 rfl
          have py0 := cellOf (o := 0) hT1.2.1 rfl; have py1 := cellOf (o := 1) hT1.2.1 rfl; have py2 := cellOf (o := 2) hT1.2.1 rfl; have py3 := cellOf (o := 3) hT1.2.1 rfl; have py4 := cellOf (o := 4) hT1.2.1 rfl; have py5 := cellOf (o := 5) hT1.2.1 rfl
          have HT := Lib.hid hT1
          clear hT1 HE2))
      | (go_at_call 21
         (refine (HS.out _ HT.out).mono ?_
          rintro e w6 ⟨rfl, hT1⟩
          have px0 := cellOf (o := 0) hT1.1 rfl; have px1 := cellOf (o := 1) hT1.1 rfl; have px2 := cellOf (o := 2) hT1.1 rfl; have px3 := cellOf (o := 3) hT1.1 rfl; have px4 := cellOf (o := 4) hT1.1 rfl; have px5 := cellOf (o := 5) hT1.1 rfl
          have py0 := cellOf (o := 0) hT1.2.1 rfl; have py1 := cellOf (o := 1) hT1.2.1 rfl; have py2 := cellOf (o := 2) hT1.2.1 rfl; have py3 := cellOf (o := 3) hT1.2.1 rfl; have py4 := cellOf (o := 4) hT1.2.1 rfl; have py5 := cellOf (o := 5) hT1.2.1 rfl
          have HT := Lib.hid hT1
          clear hT1 HS))
      | (go_at_call 46
         (refine (HNA.out _ HT.out).mono ?_
          rintro e w7 ⟨rfl, hT1⟩
          have px0 := cellOf (o := 0) hT1.1 rfl; have px1 := cellOf (o := 1) hT1.1 rfl; have px2 := cellOf (o := 2) hT1.1 rfl; have px3 := cellOf (o := 3) hT1.1 rfl; have px4 := cellOf (o := 4) hT1.1 rfl; have px5 := cellOf (o := 5) hT1.1 rfl
          have py0 := cellOf (o := 0) hT1.2.1 rfl; have py1 := cellOf (o := 1) hT1.2.1 rfl; have py2 := cellOf (o := 2) hT1.2.1 rfl; have py3 := cellOf (o := 3) hT1.2.1 rfl; have py4 := cellOf (o := 4) hT1.2.1 rfl; have py5 := cellOf (o := 5) hT1.2.1 rfl
          have HT := Lib.hid hT1
          clear hT1 HNA))
      | (go_at_call 46
         (refine (HNB.out _ HT.out).mono ?_
          rintro e w8 ⟨rfl, hT1⟩
          have px0 := cellOf (o := 0) hT1.1 rfl; have px1 := cellOf (o := 1) hT1.1 rfl; have px2 := cellOf (o := 2) hT1.1 rfl; have px3 := cellOf (o := 3) hT1.1 rfl; have px4 := cellOf (o := 4) hT1.1 rfl; have px5 := cellOf (o := 5) hT1.1 rfl
          have py0 := cellOf (o := 0) hT1.2.1 rfl; have py1 := cellOf (o := 1) hT1.2.1 rfl; have py2 := cellOf (o := 2) hT1.2.1 rfl; have py3 := cellOf (o := 3) hT1.2.1 rfl; have py4 := cellOf (o := 4) hT1.2.1 rfl; have py5 := cellOf (o := 5) hT1.2.1 rfl
          have HT := Lib.hid hT1
          clear hT1 HNB))
      | (go_at_call 33; refine (num_any _ _).mono ?_; rintro e w' ⟨rfl, rfl⟩))
    have hU : TwoV w _ #[.int .i64 ka, .bool a.b, .int .i64 a.n, .string (strB a.text), .slice pk a.keys.length ck, .slice pl a.list.length cl] #[.int .i64 kb, .bool b.b, .int .i64 b.n, .string (strB b.text), .slice pk' b.keys.length ck', .slice pl' b.list.length cl'] := HT.out.below (Below.refl _ _).drew
    refine plain_region_draws (fun W => TwoV w W #[.int .i64 ka, .bool a.b, .int .i64 a.n, .string (strB a.text), .slice pk a.keys.length ck, .slice pl a.list.length cl] #[.int .i64 kb, .bool b.b, .int .i64 b.n, .string (strB b.text), .slice pk' b.keys.length ck', .slice pl' b.list.length cl']) (by kernel_rfl) hU (fun hU => ?_)
    refine take 0 74 (v := .agg #[.int .i64 ka, .bool a.b, .int .i64 a.n, .string (strB a.text), .slice pk a.keys.length ck, .slice pl a.list.length cl]) rfl rfl (by kernel_rfl) (by kernel_rfl) (by kernel_rfl) rfl (fun W hW => exec_load rfl rfl (get_val hW.1)) (by assumption) ?_
    simp only [Act.put, List.setIfInBounds_toArray, List.set_cons_zero, List.set_cons_succ]
    refine take 1 75 (v := .agg #[.int .i64 kb, .bool b.b, .int .i64 b.n, .string (strB b.text), .slice pk' b.keys.length ck', .slice pl' b.list.length cl']) rfl rfl (by kernel_rfl) (by kernel_rfl) (by kernel_rfl) rfl (fun W hW => exec_load rfl rfl (get_val hW.2.1)) (by assumption) ?_
    simp only [Act.put, List.setIfInBounds_toArray, List.set_cons_zero, List.set_cons_succ]
    refine take 3 77 (v := .agg #[.int .i64 kb, .bool b.b, .int .i64 b.n, .string (strB b.text), .slice pk' b.keys.length ck', .slice pl' b.list.length cl']) rfl rfl (by kernel_rfl) (by kernel_rfl) (by kernel_rfl) rfl (fun W hW => exec_load rfl rfl (get_val hW.2.1)) (by assumption) ?_
    simp only [Act.put, List.setIfInBounds_toArray, List.set_cons_zero, List.set_cons_succ]
    refine take 4 78 (v := .agg #[.int .i64 ka, .bool a.b, .int .i64 a.n, .string (strB a.text), .slice pk a.keys.length ck, .slice pl a.list.length cl]) rfl rfl (by kernel_rfl) (by kernel_rfl) (by kernel_rfl) rfl (fun W hW => exec_load rfl rfl (get_val hW.1)) (by assumption) ?_
    simp only [Act.put, List.setIfInBounds_toArray, List.set_cons_zero, List.set_cons_succ]
    refine onlyCall 2 76 rfl rfl (by kernel_rfl) rfl (exec_call [.agg #[.int .i64 ka, .bool a.b, .int .i64 a.n, .string (strB a.text), .slice pk a.keys.length ck, .slice pl a.list.length cl], .agg #[.int .i64 kb, .bool b.b, .int .i64 b.n, .string (strB b.text), .slice pk' b.keys.length ck', .slice pl' b.list.length cl']] rfl rfl Tryz.func26 (by kernel_rfl) (by kernel_rfl)) ?_
    refine (HL1.out _ hU).mono ?_
    rintro e w' ⟨rfl, hU⟩
    refine ⟨_, rfl, .inr (by assumption), ?_⟩
    simp only [Act.put, List.setIfInBounds_toArray, List.set_cons_zero, List.set_cons_succ]
    refine onlyCall 5 79 rfl rfl (by kernel_rfl) rfl (exec_call [.agg #[.int .i64 kb, .bool b.b, .int .i64 b.n, .string (strB b.text), .slice pk' b.keys.length ck', .slice pl' b.list.length cl'], .agg #[.int .i64 ka, .bool a.b, .int .i64 a.n, .string (strB a.text), .slice pk a.keys.length ck, .slice pl a.list.length cl]] rfl rfl Tryz.func26 (by kernel_rfl) (by kernel_rfl)) ?_
    refine (HL2.out _ hU).mono ?_
    rintro e w' ⟨rfl, hU⟩
    refine ⟨_, rfl, .inr (by assumption), ?_⟩
    simp only [Act.put, List.setIfInBounds_toArray, List.set_cons_zero, List.set_cons_succ]
    refine take 6 7 (v := .int .i64 1) rfl rfl (by kernel_rfl) (by kernel_rfl) (by kernel_rfl) rfl (fun W hW => exec_assign rfl rfl) (by assumption) ?_
    simp only [Act.put, List.setIfInBounds_toArray, List.set_cons_zero, List.set_cons_succ]
    refine take 7 8 (v := .int .i64 1) rfl rfl (by kernel_rfl) (by kernel_rfl) (by kernel_rfl) rfl (fun W hW => exec_assign rfl rfl) (by assumption) ?_
    simp only [Act.put, List.setIfInBounds_toArray, List.set_cons_zero, List.set_cons_succ]
    refine done (by kernel_rfl) ?_ _
    have HT := Lib.hid hU
    have px0 := cellOf (o := 0) hU.1 rfl; have px1 := cellOf (o := 1) hU.1 rfl; have px2 := cellOf (o := 2) hU.1 rfl; have px3 := cellOf (o := 3) hU.1 rfl; have px4 := cellOf (o := 4) hU.1 rfl; have px5 := cellOf (o := 5) hU.1 rfl
    have py0 := cellOf (o := 0) hU.2.1 rfl; have py1 := cellOf (o := 1) hU.2.1 rfl; have py2 := cellOf (o := 2) hU.2.1 rfl; have py3 := cellOf (o := 3) hU.2.1 rfl; have py4 := cellOf (o := 4) hU.2.1 rfl; have py5 := cellOf (o := 5) hU.2.1 rfl
    clear hU
    go_wp2_with (
      first
      | (go_at_call 16
         (refine (HWK.out _ HT.out).mono ?_
          rintro e w9 ⟨rfl, hT1⟩
          have px0 := cellOf (o := 0) hT1.1 rfl; have px1 := cellOf (o := 1) hT1.1 rfl; have px2 := cellOf (o := 2) hT1.1 rfl; have px3 := cellOf (o := 3) hT1.1 rfl; have px4 := cellOf (o := 4) hT1.1 rfl; have px5 := cellOf (o := 5) hT1.1 rfl
          have py0 := cellOf (o := 0) hT1.2.1 rfl; have py1 := cellOf (o := 1) hT1.2.1 rfl; have py2 := cellOf (o := 2) hT1.2.1 rfl; have py3 := cellOf (o := 3) hT1.2.1 rfl; have py4 := cellOf (o := 4) hT1.2.1 rfl; have py5 := cellOf (o := 5) hT1.2.1 rfl
          have HT := Lib.hid hT1
          clear hT1)))
    go_ret
    exact ⟨rfl, HT.out.2.2⟩
set_option maxRecDepth 100000 in
set_option maxHeartbeats 8000000 in
theorem equal_null {w : World} {a b : V} {s : Bool} {nb : Bool} {pk pk' pl pl' : Option Addr} {ck ck' cl cl' : Nat}
    (HSM : Hid (Calls Tryz.prog 15 #[.slice (some ⟨w.heap.size + 1 + 1, 0, none⟩) 2 2] (((w.alloc (.cells #[.int .i64 a.kind, .bool a.b, .int .i64 a.n, .string (strB a.text), .slice pk a.keys.length ck, .slice pl a.list.length cl] 26)).alloc (.cells #[.int .i64 b.kind, .bool b.b, .int .i64 b.n, .string (strB b.text), .slice pk' b.keys.length ck', .slice pl' b.list.length cl'] 26)).alloc (.cells #[.int .i64 a.kind, .bool a.b, .int .i64 a.n, .string (strB a.text), .slice pk a.keys.length ck, .slice pl a.list.length cl, .int .i64 b.kind, .bool b.b, .int .i64 b.n, .string (strB b.text), .slice pk' b.keys.length ck', .slice pl' b.list.length cl'] 26)) fun e w' => e = .returned (.bool true) ∧ TwoV w w' #[.int .i64 a.kind, .bool a.b, .int .i64 a.n, .string (strB a.text), .slice pk a.keys.length ck, .slice pl a.list.length cl] #[.int .i64 b.kind, .bool b.b, .int .i64 b.n, .string (strB b.text), .slice pk' b.keys.length ck', .slice pl' b.list.length cl']))
    (HQ : Hid (Eqs w #[.int .i64 a.kind, .bool a.b, .int .i64 a.n, .string (strB a.text), .slice pk a.keys.length ck, .slice pl a.list.length cl] #[.int .i64 b.kind, .bool b.b, .int .i64 b.n, .string (strB b.text), .slice pk' b.keys.length ck', .slice pl' b.list.length cl'] a b 1 s true nb 1 1)) (hk : ¬ (a.kind = b.kind ∧ (a.kind = 1 ∨ a.kind = 2 ∨ a.kind = 3))) :
    Calls Tryz.prog 8 #[.agg #[.int .i64 a.kind, .bool a.b, .int .i64 a.n, .string (strB a.text), .slice pk a.keys.length ck, .slice pl a.list.length cl], .agg #[.int .i64 b.kind, .bool b.b, .int .i64 b.n, .string (strB b.text), .slice pk' b.keys.length ck', .slice pl' b.list.length cl']] w fun e w' => e = .returned (.bool true) ∧ Below w.heap.size w w' := by
  have hk2 : ((a.kind == b.kind) = true ∧ (a.kind == 1) = false ∧ (a.kind == 2) = false ∧ (a.kind == 3) = false) ∨ (a.kind == b.kind) = false := by
    by_cases e : a.kind = b.kind
    · exact .inl ⟨by rw [beq_iff_eq]; exact e, by rw [beq_eq_false_iff_ne]; omega, by rw [beq_eq_false_iff_ne]; omega, by rw [beq_eq_false_iff_ne]; omega⟩
    · exact .inr (by rw [beq_eq_false_iff_ne]; exact e)
  generalize a.kind = ka at *
  generalize b.kind = kb at *
  clear hk
  rcases hk2 with ⟨dk, d1, d2, d3⟩ | dk
  all_goals
    have HCA := Lib.hid HQ.out.ca
    have HCB := Lib.hid HQ.out.cb
    have HE1 := Lib.hid HQ.out.e1
    have HE2 := Lib.hid HQ.out.e2
    have HS := Lib.hid HQ.out.s
    have HNA := Lib.hid HQ.out.na
    have HNB := Lib.hid HQ.out.nb
    have HL1 := Lib.hid HQ.out.l1
    have HL2 := Lib.hid HQ.out.l2
    have HWK := Lib.hid HQ.out.wk
    go_enter Tryz.func8, Tryz.ntmps8
    go_wp2_with (first
      | (go_at_call 15
         (refine (HSM.out).mono ?_
          rintro e w1 ⟨rfl, hT1⟩
          have px0 := cellOf (o := 0) hT1.1 rfl; have px1 := cellOf (o := 1) hT1.1 rfl; have px2 := cellOf (o := 2) hT1.1 rfl; have px3 := cellOf (o := 3) hT1.1 rfl; have px4 := cellOf (o := 4) hT1.1 rfl; have px5 := cellOf (o := 5) hT1.1 rfl
          have py0 := cellOf (o := 0) hT1.2.1 rfl; have py1 := cellOf (o := 1) hT1.2.1 rfl; have py2 := cellOf (o := 2) hT1.2.1 rfl; have py3 := cellOf (o := 3) hT1.2.1 rfl; have py4 := cellOf (o := 4) hT1.2.1 rfl; have py5 := cellOf (o := 5) hT1.2.1 rfl
          have HT := Lib.hid hT1
          clear hT1))
      | (go_at_call 45
         (refine (HCA.out _ HT.out).mono ?_
          rintro e w2 ⟨rfl, hT1⟩
          have px0 := cellOf (o := 0) hT1.1 rfl; have px1 := cellOf (o := 1) hT1.1 rfl; have px2 := cellOf (o := 2) hT1.1 rfl; have px3 := cellOf (o := 3) hT1.1 rfl; have px4 := cellOf (o := 4) hT1.1 rfl; have px5 := cellOf (o := 5) hT1.1 rfl
          have py0 := cellOf (o := 0) hT1.2.1 rfl; have py1 := cellOf (o := 1) hT1.2.1 rfl; have py2 := cellOf (o := 2) hT1.2.1 rfl; have py3 := cellOf (o := 3) hT1.2.1 rfl; have py4 := cellOf (o := 4) hT1.2.1 rfl; have py5 := cellOf (o := 5) hT1.2.1 rfl
          have HT := Lib.hid hT1
          clear hT1 HCA))
      | (go_at_call 45
         (refine (HCB.out _ HT.out).mono ?_
          rintro e w3 ⟨rfl, hT1⟩
          have px0 := cellOf (o := 0) hT1.1 rfl; have px1 := cellOf (o := 1) hT1.1 rfl; have px2 := cellOf (o := 2) hT1.1 rfl; have px3 := cellOf (o := 3) hT1.1 rfl; have px4 := cellOf (o := 4) hT1.1 rfl; have px5 := cellOf (o := 5) hT1.1 rfl
          have py0 := cellOf (o := 0) hT1.2.1 rfl; have py1 := cellOf (o := 1) hT1.2.1 rfl; have py2 := cellOf (o := 2) hT1.2.1 rfl; have py3 := cellOf (o := 3) hT1.2.1 rfl; have py4 := cellOf (o := 4) hT1.2.1 rfl; have py5 := cellOf (o := 5) hT1.2.1 rfl
          have HT := Lib.hid hT1
          clear hT1 HCB))
      | (go_at_call 25
         (refine (HE1.out _ HT.out).mono ?_
          rintro e w4 ⟨rfl, hT1⟩
          have px0 := cellOf (o := 0) hT1.1 rfl; have px1 := cellOf (o := 1) hT1.1 rfl; have px2 := cellOf (o := 2) hT1.1 rfl; have px3 := cellOf (o := 3) hT1.1 rfl; have px4 := cellOf (o := 4) hT1.1 rfl; have px5 := cellOf (o := 5) hT1.1 rfl
          have py0 := cellOf (o := 0) hT1.2.1 rfl; have py1 := cellOf (o := 1) hT1.2.1 rfl; have py2 := cellOf (o := 2) hT1.2.1 rfl; have py3 := cellOf (o := 3) hT1.2.1 rfl; have py4 := cellOf (o := 4) hT1.2.1 rfl; have py5 := cellOf (o := 5) hT1.2.1 rfl
          have HT := Lib.hid hT1
          clear hT1 HE1))
      | (go_at_call 25
         (refine (HE2.out _ HT.out).mono ?_
          rintro e w5 ⟨rfl, hT1⟩
          have px0 := cellOf (o := 0) hT1.1 rfl; have px1 := cellOf (o := 1) hT1.1 rfl; have px2 := cellOf (o := 2) hT1.1 rfl; have px3 := cellOf (o := 3) hT1.1 rfl; have px4 := cellOf (o := 4) hT1.1 rfl; have px5 := cellOf (o := 5) hT1.1 rfl
          have py0 := cellOf (o := 0) hT1.2.1 rfl; have py1 := cellOf (o := 1) hT1.2.1 rfl; have py2 := cellOf (o := 2) hT1.2.1 rfl; have py3 := cellOf (o := 3) hT1.2.1 rfl; have py4 := cellOf (o := 4) hT1.2.1 rfl; have py5 := cellOf (o := 5) hT1.2.1 rfl
          have HT := Lib.hid hT1
          clear hT1 HE2))
      | (go_at_call 21
         (refine (HS.out _ HT.out).mono ?_
          rintro e w6 ⟨rfl, hT1⟩
          have px0 := cellOf (o := 0) hT1.1 rfl; have px1 := cellOf (o := 1) hT1.1 rfl; have px2 := cellOf (o := 2) hT1.1 rfl; have px3 := cellOf (o := 3) hT1.1 rfl; have px4 := cellOf (o := 4) hT1.1 rfl; have px5 := cellOf (o := 5) hT1.1 rfl
          have py0 := cellOf (o := 0) hT1.2.1 rfl; have py1 := cellOf (o := 1) hT1.2.1 rfl; have py2 := cellOf (o := 2) hT1.2.1 rfl; have py3 := cellOf (o := 3) hT1.2.1 rfl; have py4 := cellOf (o := 4) hT1.2.1 rfl; have py5 := cellOf (o := 5) hT1.2.1 rfl
          have HT := Lib.hid hT1
          clear hT1 HS))
      | (go_at_call 46
         (refine (HNA.out _ HT.out).mono ?_
          rintro e w7 ⟨rfl, hT1⟩
          have px0 := cellOf (o := 0) hT1.1 rfl; have px1 := cellOf (o := 1) hT1.1 rfl; have px2 := cellOf (o := 2) hT1.1 rfl; have px3 := cellOf (o := 3) hT1.1 rfl; have px4 := cellOf (o := 4) hT1.1 rfl; have px5 := cellOf (o := 5) hT1.1 rfl
          have py0 := cellOf (o := 0) hT1.2.1 rfl; have py1 := cellOf (o := 1) hT1.2.1 rfl; have py2 := cellOf (o := 2) hT1.2.1 rfl; have py3 := cellOf (o := 3) hT1.2.1 rfl; have py4 := cellOf (o := 4) hT1.2.1 rfl; have py5 := cellOf (o := 5) hT1.2.1 rfl
          have HT := Lib.hid hT1
          clear hT1 HNA))
      | (go_at_call 46
         (refine (HNB.out _ HT.out).mono ?_
          rintro e w8 ⟨rfl, hT1⟩
          have px0 := cellOf (o := 0) hT1.1 rfl; have px1 := cellOf (o := 1) hT1.1 rfl; have px2 := cellOf (o := 2) hT1.1 rfl; have px3 := cellOf (o := 3) hT1.1 rfl; have px4 := cellOf (o := 4) hT1.1 rfl; have px5 := cellOf (o := 5) hT1.1 rfl
          have py0 := cellOf (o := 0) hT1.2.1 rfl; have py1 := cellOf (o := 1) hT1.2.1 rfl; have py2 := cellOf (o := 2) hT1.2.1 rfl; have py3 := cellOf (o := 3) hT1.2.1 rfl; have py4 := cellOf (o := 4) hT1.2.1 rfl; have py5 := cellOf (o := 5) hT1.2.1 rfl
          have HT := Lib.hid hT1
          clear hT1 HNB))
      | (go_at_call 33; refine (num_any _ _).mono ?_; rintro e w' ⟨rfl, rfl⟩))
    have hU : TwoV w _ #[.int .i64 ka, .bool a.b, .int .i64 a.n, .string (strB a.text), .slice pk a.keys.length ck, .slice pl a.list.length cl] #[.int .i64 kb, .bool b.b, .int .i64 b.n, .string (strB b.text), .slice pk' b.keys.length ck', .slice pl' b.list.length cl'] := HT.out.below (Below.refl _ _).drew
    refine plain_region_draws (fun W => TwoV w W #[.int .i64 ka, .bool a.b, .int .i64 a.n, .string (strB a.text), .slice pk a.keys.length ck, .slice pl a.list.length cl] #[.int .i64 kb, .bool b.b, .int .i64 b.n, .string (strB b.text), .slice pk' b.keys.length ck', .slice pl' b.list.length cl']) (by kernel_rfl) hU (fun hU => ?_)
    refine take 0 74 (v := .agg #[.int .i64 ka, .bool a.b, .int .i64 a.n, .string (strB a.text), .slice pk a.keys.length ck, .slice pl a.list.length cl]) rfl rfl (by kernel_rfl) (by kernel_rfl) (by kernel_rfl) rfl (fun W hW => exec_load rfl rfl (get_val hW.1)) (by assumption) ?_
    simp only [Act.put, List.setIfInBounds_toArray, List.set_cons_zero, List.set_cons_succ]
    refine take 1 75 (v := .agg #[.int .i64 kb, .bool b.b, .int .i64 b.n, .string (strB b.text), .slice pk' b.keys.length ck', .slice pl' b.list.length cl']) rfl rfl (by kernel_rfl) (by kernel_rfl) (by kernel_rfl) rfl (fun W hW => exec_load rfl rfl (get_val hW.2.1)) (by assumption) ?_
    simp only [Act.put, List.setIfInBounds_toArray, List.set_cons_zero, List.set_cons_succ]
    refine take 3 77 (v := .agg #[.int .i64 kb, .bool b.b, .int .i64 b.n, .string (strB b.text), .slice pk' b.keys.length ck', .slice pl' b.list.length cl']) rfl rfl (by kernel_rfl) (by kernel_rfl) (by kernel_rfl) rfl (fun W hW => exec_load rfl rfl (get_val hW.2.1)) (by assumption) ?_
    simp only [Act.put, List.setIfInBounds_toArray, List.set_cons_zero, List.set_cons_succ]
    refine take 4 78 (v := .agg #[.int .i64 ka, .bool a.b, .int .i64 a.n, .string (strB a.text), .slice pk a.keys.length ck, .slice pl a.list.length cl]) rfl rfl (by kernel_rfl) (by kernel_rfl) (by kernel_rfl) rfl (fun W hW => exec_load rfl rfl (get_val hW.1)) (by assumption) ?_
    simp only [Act.put, List.setIfInBounds_toArray, List.set_cons_zero, List.set_cons_succ]
    refine onlyCall 2 76 rfl rfl (by kernel_rfl) rfl (exec_call [.agg #[.int .i64 ka, .bool a.b, .int .i64 a.n, .string (strB a.text), .slice pk a.keys.length ck, .slice pl a.list.length cl], .agg #[.int .i64 kb, .bool b.b, .int .i64 b.n, .string (strB b.text), .slice pk' b.keys.length ck', .slice pl' b.list.length cl']] rfl rfl Tryz.func26 (by kernel_rfl) (by kernel_rfl)) ?_
    refine (HL1.out _ hU).mono ?_
    rintro e w' ⟨rfl, hU⟩
    refine ⟨_, rfl, .inr (by assumption), ?_⟩
    simp only [Act.put, List.setIfInBounds_toArray, List.set_cons_zero, List.set_cons_succ]
    refine onlyCall 5 79 rfl rfl (by kernel_rfl) rfl (exec_call [.agg #[.int .i64 kb, .bool b.b, .int .i64 b.n, .string (strB b.text), .slice pk' b.keys.length ck', .slice pl' b.list.length cl'], .agg #[.int .i64 ka, .bool a.b, .int .i64 a.n, .string (strB a.text), .slice pk a.keys.length ck, .slice pl a.list.length cl]] rfl rfl Tryz.func26 (by kernel_rfl) (by kernel_rfl)) ?_
    refine (HL2.out _ hU).mono ?_
    rintro e w' ⟨rfl, hU⟩
    refine ⟨_, rfl, .inr (by assumption), ?_⟩
    simp only [Act.put, List.setIfInBounds_toArray, List.set_cons_zero, List.set_cons_succ]
    refine take 6 7 (v := .int .i64 1) rfl rfl (by kernel_rfl) (by kernel_rfl) (by kernel_rfl) rfl (fun W hW => exec_assign rfl rfl) (by assumption) ?_
    simp only [Act.put, List.setIfInBounds_toArray, List.set_cons_zero, List.set_cons_succ]
    refine take 7 8 (v := .int .i64 1) rfl rfl (by kernel_rfl) (by kernel_rfl) (by kernel_rfl) rfl (fun W hW => exec_assign rfl rfl) (by assumption) ?_
    simp only [Act.put, List.setIfInBounds_toArray, List.set_cons_zero, List.set_cons_succ]
    refine done (by kernel_rfl) ?_ _
    have HT := Lib.hid hU
    have px0 := cellOf (o := 0) hU.1 rfl; have px1 := cellOf (o := 1) hU.1 rfl; have px2 := cellOf (o := 2) hU.1 rfl; have px3 := cellOf (o := 3) hU.1 rfl; have px4 := cellOf (o := 4) hU.1 rfl; have px5 := cellOf (o := 5) hU.1 rfl
    have py0 := cellOf (o := 0) hU.2.1 rfl; have py1 := cellOf (o := 1) hU.2.1 rfl; have py2 := cellOf (o := 2) hU.2.1 rfl; have py3 := cellOf (o := 3) hU.2.1 rfl; have py4 := cellOf (o := 4) hU.2.1 rfl; have py5 := cellOf (o := 5) hU.2.1 rfl
    clear hU
    go_wp2_with (
      first
      | (go_at_call 16
         (refine (HWK.out _ HT.out).mono ?_
          rintro e w9 ⟨rfl, hT1⟩
          have px0 := cellOf (o := 0) hT1.1 rfl; have px1 := cellOf (o := 1) hT1.1 rfl; have px2 := cellOf (o := 2) hT1.1 rfl; have px3 := cellOf (o := 3) hT1.1 rfl; have px4 := cellOf (o := 4) hT1.1 rfl; have px5 := cellOf (o := 5) hT1.1 rfl
          have py0 := cellOf (o := 0) hT1.2.1 rfl; have py1 := cellOf (o := 1) hT1.2.1 rfl; have py2 := cellOf (o := 2) hT1.2.1 rfl; have py3 := cellOf (o := 3) hT1.2.1 rfl; have py4 := cellOf (o := 4) hT1.2.1 rfl; have py5 := cellOf (o := 5) hT1.2.1 rfl
          have HT := Lib.hid hT1
          clear hT1)))
    go_ret
    exact ⟨rfl, HT.out.2.2⟩
set_option maxRecDepth 100000 in
set_option maxHeartbeats 8000000 in
theorem equal_null2 {w : World} {a b : V} {s : Bool} {pk pk' pl pl' : Option Addr} {ck ck' cl cl' : Nat}
    (HSM : Hid (Calls Tryz.prog 15 #[.slice (some ⟨w.heap.size + 1 + 1, 0, none⟩) 2 2] (((w.alloc (.cells #[.int .i64 a.kind, .bool a.b, .int .i64 a.n, .string (strB a.text), .slice pk a.keys.length ck, .slice pl a.list.length cl] 26)).alloc (.cells #[.int .i64 b.kind, .bool b.b, .int .i64 b.n, .string (strB b.text), .slice pk' b.keys.length ck', .slice pl' b.list.length cl'] 26)).alloc (.cells #[.int .i64 a.kind, .bool a.b, .int .i64 a.n, .string (strB a.text), .slice pk a.keys.length ck, .slice pl a.list.length cl, .int .i64 b.kind, .bool b.b, .int .i64 b.n, .string (strB b.text), .slice pk' b.keys.length ck', .slice pl' b.list.length cl'] 26)) fun e w' => e = .returned (.bool true) ∧ TwoV w w' #[.int .i64 a.kind, .bool a.b, .int .i64 a.n, .string (strB a.text), .slice pk a.keys.length ck, .slice pl a.list.length cl] #[.int .i64 b.kind, .bool b.b, .int .i64 b.n, .string (strB b.text), .slice pk' b.keys.length ck', .slice pl' b.list.length cl']))
    (HQ : Hid (Eqs w #[.int .i64 a.kind, .bool a.b, .int .i64 a.n, .string (strB a.text), .slice pk a.keys.length ck, .slice pl a.list.length cl] #[.int .i64 b.kind, .bool b.b, .int .i64 b.n, .string (strB b.text), .slice pk' b.keys.length ck', .slice pl' b.list.length cl'] a b 1 s false true 1 1)) (hk : ¬ (a.kind = b.kind ∧ (a.kind = 1 ∨ a.kind = 2 ∨ a.kind = 3))) :
    Calls Tryz.prog 8 #[.agg #[.int .i64 a.kind, .bool a.b, .int .i64 a.n, .string (strB a.text), .slice pk a.keys.length ck, .slice pl a.list.length cl], .agg #[.int .i64 b.kind, .bool b.b, .int .i64 b.n, .string (strB b.text), .slice pk' b.keys.length ck', .slice pl' b.list.length cl']] w fun e w' => e = .returned (.bool true) ∧ Below w.heap.size w w' := by
  have hk2 : ((a.kind == b.kind) = true ∧ (a.kind == 1) = false ∧ (a.kind == 2) = false ∧ (a.kind == 3) = false) ∨ (a.kind == b.kind) = false := by
    by_cases e : a.kind = b.kind
    · exact .inl ⟨by rw [beq_iff_eq]; exact e, by rw [beq_eq_false_iff_ne]; omega, by rw [beq_eq_false_iff_ne]; omega, by rw [beq_eq_false_iff_ne]; omega⟩
    · exact .inr (by rw [beq_eq_false_iff_ne]; exact e)
  generalize a.kind = ka at *
  generalize b.kind = kb at *
  clear hk
  rcases hk2 with ⟨dk, d1, d2, d3⟩ | dk
  all_goals
    have HCA := Lib.hid HQ.out.ca
    have HCB := Lib.hid HQ.out.cb
    have HE1 := Lib.hid HQ.out.e1
    have HE2 := Lib.hid HQ.out.e2
    have HS := Lib.hid HQ.out.s
    have HNA := Lib.hid HQ.out.na
    have HNB := Lib.hid HQ.out.nb
    have HL1 := Lib.hid HQ.out.l1
    have HL2 := Lib.hid HQ.out.l2
    have HWK := Lib.hid HQ.out.wk
    go_enter Tryz.func8, Tryz.ntmps8
    go_wp2_with (first
      | (go_at_call 15
         (refine (HSM.out).mono ?_
          rintro e w1 ⟨rfl, hT1⟩
          have px0 := cellOf (o := 0) hT1.1 rfl; have px1 := cellOf (o := 1) hT1.1 rfl; have px2 := cellOf (o := 2) hT1.1 rfl; have px3 := cellOf (o := 3) hT1.1 rfl; have px4 := cellOf (o := 4) hT1.1 rfl; have px5 := cellOf (o := 5) hT1.1 rfl
          have py0 := cellOf (o := 0) hT1.2.1 rfl; have py1 := cellOf (o := 1) hT1.2.1 rfl; have py2 := cellOf (o := 2) hT1.2.1 rfl; have py3 := cellOf (o := 3) hT1.2.1 rfl; have py4 := cellOf (o := 4) hT1.2.1 rfl; have py5 := cellOf (o := 5) hT1.2.1 rfl
          have HT := Lib.hid hT1
          clear hT1))
      | (go_at_call 45
         (refine (HCA.out _ HT.out).mono ?_
          rintro e w2 ⟨rfl, hT1⟩
          have px0 := cellOf (o := 0) hT1.1 rfl; have px1 := cellOf (o := 1) hT1.1 rfl; have px2 := cellOf (o := 2) hT1.1 rfl; have px3 := cellOf (o := 3) hT1.1 rfl; have px4 := cellOf (o := 4) hT1.1 rfl; have px5 := cellOf (o := 5) hT1.1 rfl
          have py0 := cellOf (o := 0) hT1.2.1 rfl; have py1 := cellOf (o := 1) hT1.2.1 rfl; have py2 := cellOf (o := 2) hT1.2.1 rfl; have py3 := cellOf (o := 3) hT1.2.1 rfl; have py4 := cellOf (o := 4) hT1.2.1 rfl; have py5 := cellOf (o := 5) hT1.2.1 rfl
          have HT := Lib.hid hT1
          clear hT1 HCA))
      | (go_at_call 45
         (refine (HCB.out _ HT.out).mono ?_
          rintro e w3 ⟨rfl, hT1⟩
          have px0 := cellOf (o := 0) hT1.1 rfl; have px1 := cellOf (o := 1) hT1.1 rfl; have px2 := cellOf (o := 2) hT1.1 rfl; have px3 := cellOf (o := 3) hT1.1 rfl; have px4 := cellOf (o := 4) hT1.1 rfl; have px5 := cellOf (o := 5) hT1.1 rfl
          have py0 := cellOf (o := 0) hT1.2.1 rfl; have py1 := cellOf (o := 1) hT1.2.1 rfl; have py2 := cellOf (o := 2) hT1.2.1 rfl; have py3 := cellOf (o := 3) hT1.2.1 rfl; have py4 := cellOf (o := 4) hT1.2.1 rfl; have py5 := cellOf (o := 5) hT1.2.1 rfl
          have HT := Lib.hid hT1
          clear hT1 HCB))
      | (go_at_call 25
         (refine (HE1.out _ HT.out).mono ?_
          rintro e w4 ⟨rfl, hT1⟩
          have px0 := cellOf (o := 0) hT1.1 rfl; have px1 := cellOf (o := 1) hT1.1 rfl; have px2 := cellOf (o := 2) hT1.1 rfl; have px3 := cellOf (o := 3) hT1.1 rfl; have px4 := cellOf (o := 4) hT1.1 rfl; have px5 := cellOf (o := 5) hT1.1 rfl
          have py0 := cellOf (o := 0) hT1.2.1 rfl; have py1 := cellOf (o := 1) hT1.2.1 rfl; have py2 := cellOf (o := 2) hT1.2.1 rfl; have py3 := cellOf (o := 3) hT1.2.1 rfl; have py4 := cellOf (o := 4) hT1.2.1 rfl; have py5 := cellOf (o := 5) hT1.2.1 rfl
          have HT := Lib.hid hT1
          clear hT1 HE1))
      | (go_at_call 25
         (refine (HE2.out _ HT.out).mono ?_
          rintro e w5 ⟨rfl, hT1⟩
          have px0 := cellOf (o := 0) hT1.1 rfl; have px1 := cellOf (o := 1) hT1.1 rfl; have px2 := cellOf (o := 2) hT1.1 rfl; have px3 := cellOf (o := 3) hT1.1 rfl; have px4 := cellOf (o := 4) hT1.1 rfl; have px5 := cellOf (o := 5) hT1.1 rfl
          have py0 := cellOf (o := 0) hT1.2.1 rfl; have py1 := cellOf (o := 1) hT1.2.1 rfl; have py2 := cellOf (o := 2) hT1.2.1 rfl; have py3 := cellOf (o := 3) hT1.2.1 rfl; have py4 := cellOf (o := 4) hT1.2.1 rfl; have py5 := cellOf (o := 5) hT1.2.1 rfl
          have HT := Lib.hid hT1
          clear hT1 HE2))
      | (go_at_call 21
         (refine (HS.out _ HT.out).mono ?_
          rintro e w6 ⟨rfl, hT1⟩
          have px0 := cellOf (o := 0) hT1.1 rfl; have px1 := cellOf (o := 1) hT1.1 rfl; have px2 := cellOf (o := 2) hT1.1 rfl; have px3 := cellOf (o := 3) hT1.1 rfl; have px4 := cellOf (o := 4) hT1.1 rfl; have px5 := cellOf (o := 5) hT1.1 rfl
          have py0 := cellOf (o := 0) hT1.2.1 rfl; have py1 := cellOf (o := 1) hT1.2.1 rfl; have py2 := cellOf (o := 2) hT1.2.1 rfl; have py3 := cellOf (o := 3) hT1.2.1 rfl; have py4 := cellOf (o := 4) hT1.2.1 rfl; have py5 := cellOf (o := 5) hT1.2.1 rfl
          have HT := Lib.hid hT1
          clear hT1 HS))
      | (go_at_call 46
         (refine (HNA.out _ HT.out).mono ?_
          rintro e w7 ⟨rfl, hT1⟩
          have px0 := cellOf (o := 0) hT1.1 rfl; have px1 := cellOf (o := 1) hT1.1 rfl; have px2 := cellOf (o := 2) hT1.1 rfl; have px3 := cellOf (o := 3) hT1.1 rfl; have px4 := cellOf (o := 4) hT1.1 rfl; have px5 := cellOf (o := 5) hT1.1 rfl
          have py0 := cellOf (o := 0) hT1.2.1 rfl; have py1 := cellOf (o := 1) hT1.2.1 rfl; have py2 := cellOf (o := 2) hT1.2.1 rfl; have py3 := cellOf (o := 3) hT1.2.1 rfl; have py4 := cellOf (o := 4) hT1.2.1 rfl; have py5 := cellOf (o := 5) hT1.2.1 rfl
          have HT := Lib.hid hT1
          clear hT1 HNA))
      | (go_at_call 46
         (refine (HNB.out _ HT.out).mono ?_
          rintro e w8 ⟨rfl, hT1⟩
          have px0 := cellOf (o := 0) hT1.1 rfl; have px1 := cellOf (o := 1) hT1.1 rfl; have px2 := cellOf (o := 2) hT1.1 rfl; have px3 := cellOf (o := 3) hT1.1 rfl; have px4 := cellOf (o := 4) hT1.1 rfl; have px5 := cellOf (o := 5) hT1.1 rfl
          have py0 := cellOf (o := 0) hT1.2.1 rfl; have py1 := cellOf (o := 1) hT1.2.1 rfl; have py2 := cellOf (o := 2) hT1.2.1 rfl; have py3 := cellOf (o := 3) hT1.2.1 rfl; have py4 := cellOf (o := 4) hT1.2.1 rfl; have py5 := cellOf (o := 5) hT1.2.1 rfl
          have HT := Lib.hid hT1
          clear hT1 HNB))
      | (go_at_call 33; refine (num_any _ _).mono ?_; rintro e w' ⟨rfl, rfl⟩))
    have hU : TwoV w _ #[.int .i64 ka, .bool a.b, .int .i64 a.n, .string (strB a.text), .slice pk a.keys.length ck, .slice pl a.list.length cl] #[.int .i64 kb, .bool b.b, .int .i64 b.n, .string (strB b.text), .slice pk' b.keys.length ck', .slice pl' b.list.length cl'] := HT.out.below (Below.refl _ _).drew
    refine plain_region_draws (fun W => TwoV w W #[.int .i64 ka, .bool a.b, .int .i64 a.n, .string (strB a.text), .slice pk a.keys.length ck, .slice pl a.list.length cl] #[.int .i64 kb, .bool b.b, .int .i64 b.n, .string (strB b.text), .slice pk' b.keys.length ck', .slice pl' b.list.length cl']) (by kernel_rfl) hU (fun hU => ?_)
    refine take 0 74 (v := .agg #[.int .i64 ka, .bool a.b, .int .i64 a.n, .string (strB a.text), .slice pk a.keys.length ck, .slice pl a.list.length cl]) rfl rfl (by kernel_rfl) (by kernel_rfl) (by kernel_rfl) rfl (fun W hW => exec_load rfl rfl (get_val hW.1)) (by assumption) ?_
    simp only [Act.put, List.setIfInBounds_toArray, List.set_cons_zero, List.set_cons_succ]
    refine take 1 75 (v := .agg #[.int .i64 kb, .bool b.b, .int .i64 b.n, .string (strB b.text), .slice pk' b.keys.length ck', .slice pl' b.list.length cl']) rfl rfl (by kernel_rfl) (by kernel_rfl) (by kernel_rfl) rfl (fun W hW => exec_load rfl rfl (get_val hW.2.1)) (by assumption) ?_
    simp only [Act.put, List.setIfInBounds_toArray, List.set_cons_zero, List.set_cons_succ]
    refine take 3 77 (v := .agg #[.int .i64 kb, .bool b.b, .int .i64 b.n, .string (strB b.text), .slice pk' b.keys.length ck', .slice pl' b.list.length cl']) rfl rfl (by kernel_rfl) (by kernel_rfl) (by kernel_rfl) rfl (fun W hW => exec_load rfl rfl (get_val hW.2.1)) (by assumption) ?_
    simp only [Act.put, List.setIfInBounds_toArray, List.set_cons_zero, List.set_cons_succ]
    refine take 4 78 (v := .agg #[.int .i64 ka, .bool a.b, .int .i64 a.n, .string (strB a.text), .slice pk a.keys.length ck, .slice pl a.list.length cl]) rfl rfl (by kernel_rfl) (by kernel_rfl) (by kernel_rfl) rfl (fun W hW => exec_load rfl rfl (get_val hW.1)) (by assumption) ?_
    simp only [Act.put, List.setIfInBounds_toArray, List.set_cons_zero, List.set_cons_succ]
    refine onlyCall 2 76 rfl rfl (by kernel_rfl) rfl (exec_call [.agg #[.int .i64 ka, .bool a.b, .int .i64 a.n, .string (strB a.text), .slice pk a.keys.length ck, .slice pl a.list.length cl], .agg #[.int .i64 kb, .bool b.b, .int .i64 b.n, .string (strB b.text), .slice pk' b.keys.length ck', .slice pl' b.list.length cl']] rfl rfl Tryz.func26 (by kernel_rfl) (by kernel_rfl)) ?_
    refine (HL1.out _ hU).mono ?_
    rintro e w' ⟨rfl, hU⟩
    refine ⟨_, rfl, .inr (by assumption), ?_⟩
    simp only [Act.put, List.setIfInBounds_toArray, List.set_cons_zero, List.set_cons_succ]
    refine onlyCall 5 79 rfl rfl (by kernel_rfl) rfl (exec_call [.agg #[.int .i64 kb, .bool b.b, .int .i64 b.n, .string (strB b.text), .slice pk' b.keys.length ck', .slice pl' b.list.length cl'], .agg #[.int .i64 ka, .bool a.b, .int .i64 a.n, .string (strB a.text), .slice pk a.keys.length ck, .slice pl a.list.length cl]] rfl rfl Tryz.func26 (by kernel_rfl) (by kernel_rfl)) ?_
    refine (HL2.out _ hU).mono ?_
    rintro e w' ⟨rfl, hU⟩
    refine ⟨_, rfl, .inr (by assumption), ?_⟩
    simp only [Act.put, List.setIfInBounds_toArray, List.set_cons_zero, List.set_cons_succ]
    refine take 6 7 (v := .int .i64 1) rfl rfl (by kernel_rfl) (by kernel_rfl) (by kernel_rfl) rfl (fun W hW => exec_assign rfl rfl) (by assumption) ?_
    simp only [Act.put, List.setIfInBounds_toArray, List.set_cons_zero, List.set_cons_succ]
    refine take 7 8 (v := .int .i64 1) rfl rfl (by kernel_rfl) (by kernel_rfl) (by kernel_rfl) rfl (fun W hW => exec_assign rfl rfl) (by assumption) ?_
    simp only [Act.put, List.setIfInBounds_toArray, List.set_cons_zero, List.set_cons_succ]
    refine done (by kernel_rfl) ?_ _
    have HT := Lib.hid hU
    have px0 := cellOf (o := 0) hU.1 rfl; have px1 := cellOf (o := 1) hU.1 rfl; have px2 := cellOf (o := 2) hU.1 rfl; have px3 := cellOf (o := 3) hU.1 rfl; have px4 := cellOf (o := 4) hU.1 rfl; have px5 := cellOf (o := 5) hU.1 rfl
    have py0 := cellOf (o := 0) hU.2.1 rfl; have py1 := cellOf (o := 1) hU.2.1 rfl; have py2 := cellOf (o := 2) hU.2.1 rfl; have py3 := cellOf (o := 3) hU.2.1 rfl; have py4 := cellOf (o := 4) hU.2.1 rfl; have py5 := cellOf (o := 5) hU.2.1 rfl
    clear hU
    go_wp2_with (
      first
      | (go_at_call 16
         (refine (HWK.out _ HT.out).mono ?_
          rintro e w9 ⟨rfl, hT1⟩
          have px0 := cellOf (o := 0) hT1.1 rfl; have px1 := cellOf (o := 1) hT1.1 rfl; have px2 := cellOf (o := 2) hT1.1 rfl; have px3 := cellOf (o := 3) hT1.1 rfl; have px4 := cellOf (o := 4) hT1.1 rfl; have px5 := cellOf (o := 5) hT1.1 rfl
          have py0 := cellOf (o := 0) hT1.2.1 rfl; have py1 := cellOf (o := 1) hT1.2.1 rfl; have py2 := cellOf (o := 2) hT1.2.1 rfl; have py3 := cellOf (o := 3) hT1.2.1 rfl; have py4 := cellOf (o := 4) hT1.2.1 rfl; have py5 := cellOf (o := 5) hT1.2.1 rfl
          have HT := Lib.hid hT1
          clear hT1)))
    go_ret
    exact ⟨rfl, HT.out.2.2⟩
set_option maxRecDepth 100000 in
set_option maxHeartbeats 8000000 in
theorem equal_law {w : World} {a b : V} {x y : Array Value} (hE : Env w) (ha : VRd w a x) (hb : VRd w b y) :
    Calls Tryz.prog 8 #[.agg x, .agg y] w fun e w' => e = .returned (.bool true) ∧ Below w.heap.size w w' := by
  have hT := TwoV.start w x y
  obtain ⟨pk, ck, pl, cl, rfl, _⟩ := ha.open
  obtain ⟨pk', ck', pl', cl', rfl, _⟩ := hb.open
  have hb1 := below_new (w := (w.alloc (.cells #[.int .i64 a.kind, .bool a.b, .int .i64 a.n, .string (strB a.text), .slice pk a.keys.length ck, .slice pl a.list.length cl] 26)).alloc (.cells #[.int .i64 b.kind, .bool b.b, .int .i64 b.n, .string (strB b.text), .slice pk' b.keys.length ck', .slice pl' b.list.length cl'] 26)) (.cells #[.int .i64 a.kind, .bool a.b, .int .i64 a.n, .string (strB a.text), .slice pk a.keys.length ck, .slice pl a.list.length cl, .int .i64 b.kind, .bool b.b, .int .i64 b.n, .string (strB b.text), .slice pk' b.keys.length ck', .slice pl' b.list.length cl'] 26)
  have hbb := below_trans hT.2.2 hb1
  have hh := heap_alloc_new ((w.alloc (.cells #[.int .i64 a.kind, .bool a.b, .int .i64 a.n, .string (strB a.text), .slice pk a.keys.length ck, .slice pl a.list.length cl] 26)).alloc (.cells #[.int .i64 b.kind, .bool b.b, .int .i64 b.n, .string (strB b.text), .slice pk' b.keys.length ck', .slice pl' b.list.length cl'] 26)) (.cells #[.int .i64 a.kind, .bool a.b, .int .i64 a.n, .string (strB a.text), .slice pk a.keys.length ck, .slice pl a.list.length cl, .int .i64 b.kind, .bool b.b, .int .i64 b.n, .string (strB b.text), .slice pk' b.keys.length ck', .slice pl' b.list.length cl'] 26)
  simp only [World.size_alloc] at hh
  have HSM := Lib.hid ((small_any (LRd.two hh (ha.below hbb) (hb.below hbb))).mono (R' := fun e w' => e = .returned (.bool (decide (totVs [a, b] ≤ 2000))) ∧ TwoV w w' #[.int .i64 a.kind, .bool a.b, .int .i64 a.n, .string (strB a.text), .slice pk a.keys.length ck, .slice pl a.list.length cl] #[.int .i64 b.kind, .bool b.b, .int .i64 b.n, .string (strB b.text), .slice pk' b.keys.length ck', .slice pl' b.list.length cl']) fun _ _ h' => ⟨h'.1, (hT.below hb1).below h'.2⟩)
  have HW := Lib.hid (fun (W : World) (h : TwoV w W #[.int .i64 a.kind, .bool a.b, .int .i64 a.n, .string (strB a.text), .slice pk a.keys.length ck, .slice pl a.list.length cl] #[.int .i64 b.kind, .bool b.b, .int .i64 b.n, .string (strB b.text), .slice pk' b.keys.length ck', .slice pl' b.list.length cl']) => h.works hE)
  have hts : totVs [a, b] = totV a + totV b := by simp [totVs]
  clear hh hbb hb1
  by_cases hs : totVs [a, b] ≤ 2000
  · rw [decide_eq_true hs] at HSM
    have HCA := Lib.hid (fun (W : World) (h : TwoV w W #[.int .i64 a.kind, .bool a.b, .int .i64 a.n, .string (strB a.text), .slice pk a.keys.length ck, .slice pl a.list.length cl] #[.int .i64 b.kind, .bool b.b, .int .i64 b.n, .string (strB b.text), .slice pk' b.keys.length ck', .slice pl' b.list.length cl']) => h.check hE ha (by omega))
    have HCB := Lib.hid (fun (W : World) (h : TwoV w W #[.int .i64 a.kind, .bool a.b, .int .i64 a.n, .string (strB a.text), .slice pk a.keys.length ck, .slice pl a.list.length cl] #[.int .i64 b.kind, .bool b.b, .int .i64 b.n, .string (strB b.text), .slice pk' b.keys.length ck', .slice pl' b.list.length cl']) => h.check hE hb (by omega))
    by_cases ka : checkV Lib.validD a = 0
    · by_cases kb : checkV Lib.validD b = 0
      · have oa : okV a = true := by unfold okV; rw [ka]; rfl
        have ob : okV b = true := by unfold okV; rw [kb]; rfl
        have ht : totV a + totV b ≤ 2000 := by omega
        by_cases hk : a.kind = b.kind ∧ (a.kind = 1 ∨ a.kind = 2 ∨ a.kind = 3)
        · rcases eq_plain oa ob hk.1 hk.2 with h | h | h
          · exact equal_lt HSM (Lib.hid (h.eqs hE ha hb ka kb ht)) hk.1 hk.2
          · exact equal_eq HSM (Lib.hid (h.eqs hE ha hb ka kb ht)) hk.1 hk.2
          · exact equal_gt HSM (Lib.hid (h.eqs hE ha hb ka kb ht)) hk.1 hk.2
        · rcases eq_other oa ob hk with ⟨na, nb, h⟩ | ⟨na, nb, h⟩ | ⟨s, nb, h⟩ | ⟨s, h⟩
          · exact equal_no HSM (Lib.hid (h.eqs hE ha hb ka kb ht)) hk
          · exact equal_yes HSM (Lib.hid (h.eqs hE ha hb ka kb ht)) hk
          · exact equal_null HSM (Lib.hid (h.eqs hE ha hb ka kb ht)) hk
          · exact equal_null2 HSM (Lib.hid (h.eqs hE ha hb ka kb ht)) hk
      · have hne : (checkV Lib.validD b == 0) = false := by rw [beq_eq_false_iff_ne]; exact kb
        rw [ka] at HCA
        generalize checkV Lib.validD b = cv at *
        clear hE ha hb hT hts hs ka
        go_enter Tryz.func8, Tryz.ntmps8
        go_wp2_with (first
          | (go_at_call 15
             (refine (HSM.out).mono ?_
              rintro e w1 ⟨rfl, hT1⟩
              have px0 := cellOf (o := 0) hT1.1 rfl; have px1 := cellOf (o := 1) hT1.1 rfl; have px2 := cellOf (o := 2) hT1.1 rfl; have px3 := cellOf (o := 3) hT1.1 rfl; have px4 := cellOf (o := 4) hT1.1 rfl; have px5 := cellOf (o := 5) hT1.1 rfl
              have py0 := cellOf (o := 0) hT1.2.1 rfl; have py1 := cellOf (o := 1) hT1.2.1 rfl; have py2 := cellOf (o := 2) hT1.2.1 rfl; have py3 := cellOf (o := 3) hT1.2.1 rfl; have py4 := cellOf (o := 4) hT1.2.1 rfl; have py5 := cellOf (o := 5) hT1.2.1 rfl
              have HT := Lib.hid hT1
              clear hT1))
          | (go_at_call 45
             (refine (HCA.out _ HT.out).mono ?_
              rintro e w2 ⟨rfl, hT1⟩
              have px0 := cellOf (o := 0) hT1.1 rfl; have px1 := cellOf (o := 1) hT1.1 rfl; have px2 := cellOf (o := 2) hT1.1 rfl; have px3 := cellOf (o := 3) hT1.1 rfl; have px4 := cellOf (o := 4) hT1.1 rfl; have px5 := cellOf (o := 5) hT1.1 rfl
              have py0 := cellOf (o := 0) hT1.2.1 rfl; have py1 := cellOf (o := 1) hT1.2.1 rfl; have py2 := cellOf (o := 2) hT1.2.1 rfl; have py3 := cellOf (o := 3) hT1.2.1 rfl; have py4 := cellOf (o := 4) hT1.2.1 rfl; have py5 := cellOf (o := 5) hT1.2.1 rfl
              have HT := Lib.hid hT1
              clear hT1 HCA))
          | (go_at_call 45
             (refine (HCB.out _ HT.out).mono ?_
              rintro e w3 ⟨rfl, hT1⟩
              have px0 := cellOf (o := 0) hT1.1 rfl; have px1 := cellOf (o := 1) hT1.1 rfl; have px2 := cellOf (o := 2) hT1.1 rfl; have px3 := cellOf (o := 3) hT1.1 rfl; have px4 := cellOf (o := 4) hT1.1 rfl; have px5 := cellOf (o := 5) hT1.1 rfl
              have py0 := cellOf (o := 0) hT1.2.1 rfl; have py1 := cellOf (o := 1) hT1.2.1 rfl; have py2 := cellOf (o := 2) hT1.2.1 rfl; have py3 := cellOf (o := 3) hT1.2.1 rfl; have py4 := cellOf (o := 4) hT1.2.1 rfl; have py5 := cellOf (o := 5) hT1.2.1 rfl
              have HT := Lib.hid hT1
              clear hT1 HCB))
          | (go_at_call 33; refine (num_any _ _).mono ?_; rintro e w' ⟨rfl, rfl⟩)
          | (go_at_call 16
             (refine (HW.out _ HT.out).mono ?_
              rintro e w9 ⟨rfl, hT1⟩
              have px0 := cellOf (o := 0) hT1.1 rfl; have px1 := cellOf (o := 1) hT1.1 rfl; have px2 := cellOf (o := 2) hT1.1 rfl; have px3 := cellOf (o := 3) hT1.1 rfl; have px4 := cellOf (o := 4) hT1.1 rfl; have px5 := cellOf (o := 5) hT1.1 rfl
              have py0 := cellOf (o := 0) hT1.2.1 rfl; have py1 := cellOf (o := 1) hT1.2.1 rfl; have py2 := cellOf (o := 2) hT1.2.1 rfl; have py3 := cellOf (o := 3) hT1.2.1 rfl; have py4 := cellOf (o := 4) hT1.2.1 rfl; have py5 := cellOf (o := 5) hT1.2.1 rfl
              have HT := Lib.hid hT1
              clear hT1)))
        go_ret
        exact ⟨rfl, HT.out.2.2⟩
    · have hne : (checkV Lib.validD a == 0) = false := by rw [beq_eq_false_iff_ne]; exact ka
      generalize checkV Lib.validD a = cv at *
      clear hE ha hb hT hts hs HCB
      go_enter Tryz.func8, Tryz.ntmps8
      go_wp2_with (first
        | (go_at_call 15
           (refine (HSM.out).mono ?_
            rintro e w1 ⟨rfl, hT1⟩
            have px0 := cellOf (o := 0) hT1.1 rfl; have px1 := cellOf (o := 1) hT1.1 rfl; have px2 := cellOf (o := 2) hT1.1 rfl; have px3 := cellOf (o := 3) hT1.1 rfl; have px4 := cellOf (o := 4) hT1.1 rfl; have px5 := cellOf (o := 5) hT1.1 rfl
            have py0 := cellOf (o := 0) hT1.2.1 rfl; have py1 := cellOf (o := 1) hT1.2.1 rfl; have py2 := cellOf (o := 2) hT1.2.1 rfl; have py3 := cellOf (o := 3) hT1.2.1 rfl; have py4 := cellOf (o := 4) hT1.2.1 rfl; have py5 := cellOf (o := 5) hT1.2.1 rfl
            have HT := Lib.hid hT1
            clear hT1))
        | (go_at_call 45
           (refine (HCA.out _ HT.out).mono ?_
            rintro e w2 ⟨rfl, hT1⟩
            have px0 := cellOf (o := 0) hT1.1 rfl; have px1 := cellOf (o := 1) hT1.1 rfl; have px2 := cellOf (o := 2) hT1.1 rfl; have px3 := cellOf (o := 3) hT1.1 rfl; have px4 := cellOf (o := 4) hT1.1 rfl; have px5 := cellOf (o := 5) hT1.1 rfl
            have py0 := cellOf (o := 0) hT1.2.1 rfl; have py1 := cellOf (o := 1) hT1.2.1 rfl; have py2 := cellOf (o := 2) hT1.2.1 rfl; have py3 := cellOf (o := 3) hT1.2.1 rfl; have py4 := cellOf (o := 4) hT1.2.1 rfl; have py5 := cellOf (o := 5) hT1.2.1 rfl
            have HT := Lib.hid hT1
            clear hT1 HCA))
        | (go_at_call 45
           (refine (HCB.out _ HT.out).mono ?_
            rintro e w3 ⟨rfl, hT1⟩
            have px0 := cellOf (o := 0) hT1.1 rfl; have px1 := cellOf (o := 1) hT1.1 rfl; have px2 := cellOf (o := 2) hT1.1 rfl; have px3 := cellOf (o := 3) hT1.1 rfl; have px4 := cellOf (o := 4) hT1.1 rfl; have px5 := cellOf (o := 5) hT1.1 rfl
            have py0 := cellOf (o := 0) hT1.2.1 rfl; have py1 := cellOf (o := 1) hT1.2.1 rfl; have py2 := cellOf (o := 2) hT1.2.1 rfl; have py3 := cellOf (o := 3) hT1.2.1 rfl; have py4 := cellOf (o := 4) hT1.2.1 rfl; have py5 := cellOf (o := 5) hT1.2.1 rfl
            have HT := Lib.hid hT1
            clear hT1 HCB))
        | (go_at_call 33; refine (num_any _ _).mono ?_; rintro e w' ⟨rfl, rfl⟩)
        | (go_at_call 16
           (refine (HW.out _ HT.out).mono ?_
            rintro e w9 ⟨rfl, hT1⟩
            have px0 := cellOf (o := 0) hT1.1 rfl; have px1 := cellOf (o := 1) hT1.1 rfl; have px2 := cellOf (o := 2) hT1.1 rfl; have px3 := cellOf (o := 3) hT1.1 rfl; have px4 := cellOf (o := 4) hT1.1 rfl; have px5 := cellOf (o := 5) hT1.1 rfl
            have py0 := cellOf (o := 0) hT1.2.1 rfl; have py1 := cellOf (o := 1) hT1.2.1 rfl; have py2 := cellOf (o := 2) hT1.2.1 rfl; have py3 := cellOf (o := 3) hT1.2.1 rfl; have py4 := cellOf (o := 4) hT1.2.1 rfl; have py5 := cellOf (o := 5) hT1.2.1 rfl
            have HT := Lib.hid hT1
            clear hT1)))
      go_ret
      exact ⟨rfl, HT.out.2.2⟩
  · rw [decide_eq_false hs] at HSM
    clear hE ha hb hT hts hs
    go_enter Tryz.func8, Tryz.ntmps8
    go_wp2_with (first
      | (go_at_call 15
         (refine (HSM.out).mono ?_
          rintro e w1 ⟨rfl, hT1⟩
          have px0 := cellOf (o := 0) hT1.1 rfl; have px1 := cellOf (o := 1) hT1.1 rfl; have px2 := cellOf (o := 2) hT1.1 rfl; have px3 := cellOf (o := 3) hT1.1 rfl; have px4 := cellOf (o := 4) hT1.1 rfl; have px5 := cellOf (o := 5) hT1.1 rfl
          have py0 := cellOf (o := 0) hT1.2.1 rfl; have py1 := cellOf (o := 1) hT1.2.1 rfl; have py2 := cellOf (o := 2) hT1.2.1 rfl; have py3 := cellOf (o := 3) hT1.2.1 rfl; have py4 := cellOf (o := 4) hT1.2.1 rfl; have py5 := cellOf (o := 5) hT1.2.1 rfl
          have HT := Lib.hid hT1
          clear hT1))
      | (go_at_call 45
         (refine (HCA.out _ HT.out).mono ?_
          rintro e w2 ⟨rfl, hT1⟩
          have px0 := cellOf (o := 0) hT1.1 rfl; have px1 := cellOf (o := 1) hT1.1 rfl; have px2 := cellOf (o := 2) hT1.1 rfl; have px3 := cellOf (o := 3) hT1.1 rfl; have px4 := cellOf (o := 4) hT1.1 rfl; have px5 := cellOf (o := 5) hT1.1 rfl
          have py0 := cellOf (o := 0) hT1.2.1 rfl; have py1 := cellOf (o := 1) hT1.2.1 rfl; have py2 := cellOf (o := 2) hT1.2.1 rfl; have py3 := cellOf (o := 3) hT1.2.1 rfl; have py4 := cellOf (o := 4) hT1.2.1 rfl; have py5 := cellOf (o := 5) hT1.2.1 rfl
          have HT := Lib.hid hT1
          clear hT1 HCA))
      | (go_at_call 45
         (refine (HCB.out _ HT.out).mono ?_
          rintro e w3 ⟨rfl, hT1⟩
          have px0 := cellOf (o := 0) hT1.1 rfl; have px1 := cellOf (o := 1) hT1.1 rfl; have px2 := cellOf (o := 2) hT1.1 rfl; have px3 := cellOf (o := 3) hT1.1 rfl; have px4 := cellOf (o := 4) hT1.1 rfl; have px5 := cellOf (o := 5) hT1.1 rfl
          have py0 := cellOf (o := 0) hT1.2.1 rfl; have py1 := cellOf (o := 1) hT1.2.1 rfl; have py2 := cellOf (o := 2) hT1.2.1 rfl; have py3 := cellOf (o := 3) hT1.2.1 rfl; have py4 := cellOf (o := 4) hT1.2.1 rfl; have py5 := cellOf (o := 5) hT1.2.1 rfl
          have HT := Lib.hid hT1
          clear hT1 HCB))
      | (go_at_call 33; refine (num_any _ _).mono ?_; rintro e w' ⟨rfl, rfl⟩)
      | (go_at_call 16
         (refine (HW.out _ HT.out).mono ?_
          rintro e w9 ⟨rfl, hT1⟩
          have px0 := cellOf (o := 0) hT1.1 rfl; have px1 := cellOf (o := 1) hT1.1 rfl; have px2 := cellOf (o := 2) hT1.1 rfl; have px3 := cellOf (o := 3) hT1.1 rfl; have px4 := cellOf (o := 4) hT1.1 rfl; have px5 := cellOf (o := 5) hT1.1 rfl
          have py0 := cellOf (o := 0) hT1.2.1 rfl; have py1 := cellOf (o := 1) hT1.2.1 rfl; have py2 := cellOf (o := 2) hT1.2.1 rfl; have py3 := cellOf (o := 3) hT1.2.1 rfl; have py4 := cellOf (o := 4) hT1.2.1 rfl; have py5 := cellOf (o := 5) hT1.2.1 rfl
          have HT := Lib.hid hT1
          clear hT1)))
    go_ret
    exact ⟨rfl, HT.out.2.2⟩
end Go.Proofs.YtnkaegdnjfpliaaGreatDoor
