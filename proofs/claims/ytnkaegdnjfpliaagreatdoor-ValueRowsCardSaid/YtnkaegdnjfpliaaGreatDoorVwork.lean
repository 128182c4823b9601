/- The law's works: a map is made, told, and held against another one. Printed by gen_work.py. -/
import Derived.Test.YtnkaegdnjfpliaaGreatDoorVworkp
namespace Go.Proofs.YtnkaegdnjfpliaaGreatDoor
set_option linter.unusedSimpArgs false
set_option linter.unusedVariables false
open Go.RowKit

/-- What lies in the box while it works. -/
structure WorkB (w : World) (g : Nat) (x : Array Value) (W : World) : Prop where
  box : W.heap[g]? = some (.cells x 26 (0, 0))
  rd : VRd W VM x
  below : Below w.heap.size w W
theorem WorkB.keep {w W W' : World} {g : Nat} {x : Array Value} (h : WorkB w g x W) (hb : Below W.heap.size W W') : WorkB w g x W' :=
  ⟨belowBlk hb (Array.getElem?_eq_some_iff.1 h.box).1 h.box, h.rd.below hb, below_trans h.below hb⟩
theorem cmp_call {w W : World} {g : Nat} {x : Array Value} (hE : Env w) (h : WorkB w g x W) : Calls Tryz.prog 20 #[.agg x, .agg (flatX 3 false 0 [97])] W fun e w' => e = .returned (.int .i64 (-1)) ∧ WorkB w g x w' :=
  (comparePub_any (a := VM) (b := VA) (hE.b h.below) h.rd (flatX_rd W 3 false 0 [97] (by simp)) (by simp [VM, VA, totV, totVs])).mono fun e w' h' => by
    rw [cmpMA] at h'
    exact ⟨h'.1, h.keep h'.2⟩
theorem eq_call {w W : World} {g : Nat} {x : Array Value} (hE : Env w) (h : WorkB w g x W) : Calls Tryz.prog 25 #[.agg x, .agg x] W fun e w' => e = .returned (.int .i64 1) ∧ WorkB w g x w' :=
  (equalPub_any (a := VM) (b := VM) (hE.b h.below) h.rd h.rd (by simp [VM, totV, totVs])).mono fun e w' h' => by
    rw [eqMM] at h'
    exact ⟨h'.1, h.keep h'.2⟩
theorem less_call {w W : World} {g : Nat} {x : Array Value} (hE : Env w) (h : WorkB w g x W) : Calls Tryz.prog 26 #[.agg (flatX 2 false 1 []), .agg (flatX 2 false 2 [])] W fun e w' => e = .returned (.int .i64 2) ∧ WorkB w g x w' :=
  (less_any (a := .mk 2 false 1 [] [] []) (b := .mk 2 false 2 [] [] []) (hE.b h.below) (flatX_rd W 2 false 1 [] (by simp)) (flatX_rd W 2 false 2 [] (by simp)) (by simp [totV, totVs])).mono fun e w' h' => by
    rw [less12] at h'
    exact ⟨h'.1, h.keep h'.2⟩
theorem copy_call {w W : World} {g : Nat} {x : Array Value} (h : WorkB w g x W) : Calls Tryz.prog 51 #[.agg x] W fun e w' => ∃ y, e = .returned (.agg y) ∧ VRd w' VM y ∧ WorkB w g x w' :=
  (copy_any VM (Nat.le_trans totM (by decide)) W x h.rd).mono fun e w' ⟨y, he, hy, hb⟩ => ⟨y, he, hy.rd (Nat.le_trans totM (by decide)), h.keep hb⟩
theorem same_call {w W : World} {g : Nat} {x y : Array Value} (hE : Env w) (h : WorkB w g x W) (hy : VRd W VM y) : Calls Tryz.prog 21 #[.agg x, .agg y] W fun e w' => e = .returned (.bool true) ∧ WorkB w g x w' :=
  (same_any (a := VM) (b := VM) (hE.b h.below) h.rd hy (by simp [VM, totV, totVs])).mono fun e w' h' => by
    rw [sameMM] at h'
    exact ⟨h'.1, h.keep h'.2⟩
set_option maxRecDepth 100000 in
set_option maxHeartbeats 1000000 in
theorem works_any {w : World} (hE : Env w) : Calls Tryz.prog 16 #[] w fun e w' => e = .returned (.bool true) ∧ Below w.heap.size w w' := by
  have hA0 := below_new (w := w) (.cells #[.string (strB [98]), .string (strB [97, 32, 98])] 9)
  have hk0 := RdS.two (heap_alloc_new w (.cells #[.string (strB [98]), .string (strB [97, 32, 98])] 9)) (by decide) (by decide)
  have H0 := Lib.hid (And.intro hA0 hk0)
  have HM1 := Lib.hid call_one
  have HM2 := Lib.hid call_two
  have HE := Lib.hid hE
  clear hA0 hk0 hE
  go_enter Tryz.func16, Tryz.ntmps16
  go_wp2_with (first
    | (go_at_call 43
       (
         refine (int_any 2 _).mono ?_
         rintro e w1 ⟨rfl, hb⟩
         have H1 := Lib.hid (And.intro (H0.out.2.below hb) (And.intro (below_trans H0.out.1 hb) (flatX_rd w1 2 false 2 [] (by simp))))
         unfold flatX at *
         clear hb H0))
    | (go_at_call 41
       (
         refine (null_any _).mono ?_
         rintro e w2 ⟨rfl, hb⟩
         have H2 := Lib.hid (And.intro (H1.out.1.below hb) (And.intro (below_trans H1.out.2.1 hb) (H1.out.2.2.below hb)))
         unfold flatX
         clear hb H1))
    | (go_at_call 42
       (
         refine (bool_any true _).mono ?_
         rintro e w3 ⟨rfl, hb⟩
         have H3 := Lib.hid (And.intro (H2.out.1.below hb) (And.intro (below_trans H2.out.2.1 hb) (H2.out.2.2.below hb)))
         unfold flatX
         clear hb H2))
    | (go_at_call 38
       (
         have hl := LRd.two (heap_alloc_new w3 _) (flatX_rd (w3.alloc (.cells #[.int .i64 0, .bool false, .int .i64 0, .string (strB []), .slice none 0 0, .slice none 0 0, .int .i64 1, .bool true, .int .i64 0, .string (strB []), .slice none 0 0, .slice none 0 0] 26)) 0 false 0 [] (by simp)) (flatX_rd _ 1 true 0 [] (by simp))
         refine (list_any hl (by simp [totV, totVs])).mono ?_
         rintro e w4 ⟨x, rfl, hx, hb⟩
         have hb4 := below_trans (below_new _) hb
         have hx4 := hx.rd (by simp [totV, totVs])
         have hx5 := hx4
         obtain ⟨pk, ck, pl, cl, rfl, _⟩ := hx4.open
         simp only [V.kind, V.b, V.n, V.text, V.keys, V.list] at *
         have H4 := Lib.hid (And.intro (H3.out.1.below hb4) (And.intro (below_trans H3.out.2.1 hb4) (And.intro (H3.out.2.2.below hb4) hx5)))
         clear hb hb4 hx hx4 hx5 hl H3))
    | (go_at_call 36
       (
         have hb5 := below_new (w := w4) (.cells #[.int .i64 2, .bool false, .int .i64 2, .string (strB []), .slice none 0 0, .slice none 0 0, .int .i64 4, .bool false, .int .i64 0, .string (strB []), .slice pk 0 ck, .slice pl 2 cl] 26)
         refine (HM1.out _ _ _ _ _ (H4.out.1.below hb5) (LRd.two (heap_alloc_new w4 _) (H4.out.2.2.1.below hb5) (H4.out.2.2.2.below hb5))).mono ?_
         rintro e w6 ⟨hb, x, rfl, hx⟩
         have hb6 := below_trans (below_trans H4.out.2.1 hb5) hb
         have hx6 := hx
         obtain ⟨pk6, ck6, pl6, cl6, rfl, _⟩ := hx.open
         have HW := Lib.hid (show WorkB w w6.heap.size _ _ from ⟨heap_alloc_new w6 _, hx6.below (below_new (.cells _ 26)), below_trans hb6 (below_new _)⟩)
         have HL := Lib.hid (get_val HW.out.box)
         clear hb hb5 hb6 hx hx6 HM1 H4))
    | (go_at_call 27
       (
         refine (text_any (HE.out.b HW.out.below) HW.out.rd (by simp [VM, rngV, rngVs]) (Nat.le_trans totM (by decide))).mono ?_
         rintro e w7 ⟨rfl, hb⟩
         rw [textM]
         have HW7 := Lib.hid (HW.out.keep hb)
         clear hb HL HW))
    | (go_at_call 36
       (
         have hb8 := below_new (w := w7) (.cells #[.string (strB [97]), .string (strB [97])] 9)
         have hb9 := below_new (w := w7.alloc (.cells #[.string (strB [97]), .string (strB [97])] 9)) (.cells #[.int .i64 0, .bool false, .int .i64 0, .string (strB []), .slice none 0 0, .slice none 0 0, .int .i64 0, .bool false, .int .i64 0, .string (strB []), .slice none 0 0, .slice none 0 0] 26)
         have hk := (RdS.two (heap_alloc_new w7 (.cells #[.string (strB [97]), .string (strB [97])] 9)) (by decide) (by decide)).below hb9
         have hl := LRd.two (heap_alloc_new (w7.alloc (.cells #[.string (strB [97]), .string (strB [97])] 9)) (.cells #[.int .i64 0, .bool false, .int .i64 0, .string (strB []), .slice none 0 0, .slice none 0 0, .int .i64 0, .bool false, .int .i64 0, .string (strB []), .slice none 0 0, .slice none 0 0] 26)) (flatX_rd _ 0 false 0 [] (by simp)) (flatX_rd _ 0 false 0 [] (by simp))
         rw [World.size_alloc] at hl
         refine (HM2.out _ _ _ _ _ hk hl).mono ?_
         rintro e w10 ⟨hb, p0, n0, c0, p1, n1, c1, k, b, n, t, rfl⟩
         have HW10 := Lib.hid (((HW7.out.keep (below_trans (below_trans hb8 hb9) hb)).keep (below_new (.cells #[.int .i64 k, .bool b, .int .i64 n, .string t, .slice p0 n0 c0, .slice p1 n1 c1] 26))))
         clear hb hb8 hb9 hk hl HW7 HM2))
    | (refine wpList_load rfl _ _ _ rfl rfl HL.out ?_))
  generalize w10.alloc _ = W at *
  have hU : WorkB w w6.heap.size #[.int .i64 VM.kind, .bool VM.b, .int .i64 VM.n, .string (strB VM.text), .slice pk6 VM.keys.length ck6, .slice pl6 VM.list.length cl6] W.drew := HW10.out.keep (Below.refl _ _).drew
  have e1 : ∀ W : World, (binOp .add 3 (.int .i64 0) (.int .i64 0)).run Tryz.prog W = .ok (.int .i64 0) W := fun W => by simp [go_sem, IntKind.wrap, IntKind.signed, IntKind.bits]
  have e2 : ∀ W : World, (binOp .eql 3 (.int .i64 0) (.int .i64 0)).run Tryz.prog W = .ok (.bool true) W := fun W => by simp [go_sem]
  have e3 : ∀ W : World, (binOp .eql 9 (.string (strB [123, 96, 97, 32, 98, 96, 58, 32, 91, 110, 117, 108, 108, 44, 32, 116, 114, 117, 101, 93, 44, 32, 98, 58, 32, 50, 125])) (.string (strB [123, 96, 97, 32, 98, 96, 58, 32, 91, 110, 117, 108, 108, 44, 32, 116, 114, 117, 101, 93, 44, 32, 98, 58, 32, 50, 125]))).run Tryz.prog W = .ok (.bool true) W := fun W => by simp [go_sem]
  have e4 : ∀ W : World, (binOp .eql 3 (.int .i64 2) (.int .i64 2)).run Tryz.prog W = .ok (.bool true) W := fun W => by simp [go_sem]
  have e5 : ∀ W : World, (binOp .eql 3 (.int .i64 (-1)) (.int .i64 (-1))).run Tryz.prog W = .ok (.bool true) W := fun W => by simp [go_sem]
  have e6 : ∀ W : World, (binOp .eql 32 (.int .i64 1) (.int .i64 1)).run Tryz.prog W = .ok (.bool true) W := fun W => by simp [go_sem]
  have e7 : ∀ W : World, (binOp .eql 32 (.int .i64 2) (.int .i64 2)).run Tryz.prog W = .ok (.bool true) W := fun W => by simp [go_sem]
  clear HW10
  refine plain_region_draws (fun W => WorkB w w6.heap.size #[.int .i64 VM.kind, .bool VM.b, .int .i64 VM.n, .string (strB VM.text), .slice pk6 VM.keys.length ck6, .slice pl6 VM.list.length cl6] W) (by kernel_rfl) hU (fun hU => ?_)
  generalize W.drew = W0 at *
  refine take 0 31 (v := .int .i64 0) rfl rfl (by kernel_rfl) (by kernel_rfl) (by kernel_rfl) rfl (fun W hW => exec_move rfl rfl) (by assumption) ?_
  simp only [Act.put, List.setIfInBounds_toArray, List.set_cons_zero, List.set_cons_succ]
  refine take 2 33 (v := .int .i64 0) rfl rfl (by kernel_rfl) (by kernel_rfl) (by kernel_rfl) rfl (fun W hW => exec_move rfl rfl) (by assumption) ?_
  simp only [Act.put, List.setIfInBounds_toArray, List.set_cons_zero, List.set_cons_succ]
  refine onlyCall 1 32 rfl rfl (by kernel_rfl) rfl (exec_call [.int .i64 0] rfl rfl Tryz.func33 (by kernel_rfl) (by kernel_rfl)) ?_
  refine (num_any 0 _).mono ?_
  rintro e w' ⟨rfl, rfl⟩
  refine ⟨_, rfl, .inr (by assumption), ?_⟩
  simp only [Act.put, List.setIfInBounds_toArray, List.set_cons_zero, List.set_cons_succ]
  refine onlyCall 3 34 rfl rfl (by kernel_rfl) rfl (exec_call [.int .i64 0] rfl rfl Tryz.func33 (by kernel_rfl) (by kernel_rfl)) ?_
  refine (num_any 0 _).mono ?_
  rintro e w' ⟨rfl, rfl⟩
  refine ⟨_, rfl, .inr (by assumption), ?_⟩
  simp only [Act.put, List.setIfInBounds_toArray, List.set_cons_zero, List.set_cons_succ]
  refine take 4 35 (v := .int .i64 0) rfl rfl (by kernel_rfl) (by kernel_rfl) (by kernel_rfl) rfl (fun W hW => exec_bini rfl rfl rfl (e1 W)) (by assumption) ?_
  simp only [Act.put, List.setIfInBounds_toArray, List.set_cons_zero, List.set_cons_succ]
  refine take 5 36 (v := .bool true) rfl rfl (by kernel_rfl) (by kernel_rfl) (by kernel_rfl) rfl (fun W hW => exec_bini rfl rfl rfl (e2 W)) (by assumption) ?_
  simp only [Act.put, List.setIfInBounds_toArray, List.set_cons_zero, List.set_cons_succ]
  refine take 6 37 (v := .bool true) rfl rfl (by kernel_rfl) (by kernel_rfl) (by kernel_rfl) rfl (fun W hW => exec_move rfl rfl) (by assumption) ?_
  simp only [Act.put, List.setIfInBounds_toArray, List.set_cons_zero, List.set_cons_succ]
  refine take 7 38 (v := .string (strB [123, 96, 97, 32, 98, 96, 58, 32, 91, 110, 117, 108, 108, 44, 32, 116, 114, 117, 101, 93, 44, 32, 98, 58, 32, 50, 125])) rfl rfl (by kernel_rfl) (by kernel_rfl) (by kernel_rfl) rfl (fun W hW => exec_move rfl rfl) (by assumption) ?_
  simp only [Act.put, List.setIfInBounds_toArray, List.set_cons_zero, List.set_cons_succ]
  refine take 8 39 (v := .bool true) rfl rfl (by kernel_rfl) (by kernel_rfl) (by kernel_rfl) rfl (fun W hW => exec_bins rfl rfl rfl (e3 W)) (by assumption) ?_
  simp only [Act.put, List.setIfInBounds_toArray, List.set_cons_zero, List.set_cons_succ]
  refine take 9 40 (v := .bool true) rfl rfl (by kernel_rfl) (by kernel_rfl) (by kernel_rfl) rfl (fun W hW => rfl) (by assumption) ?_
  simp only [Act.put, List.setIfInBounds_toArray, List.set_cons_zero, List.set_cons_succ]
  refine take 10 41 (v := .bool true) rfl rfl (by kernel_rfl) (by kernel_rfl) (by kernel_rfl) rfl (fun W hW => exec_move rfl rfl) (by assumption) ?_
  simp only [Act.put, List.setIfInBounds_toArray, List.set_cons_zero, List.set_cons_succ]
  refine take 11 42 (v := .int .i64 2) rfl rfl (by kernel_rfl) (by kernel_rfl) (by kernel_rfl) rfl (fun W hW => exec_move rfl rfl) (by assumption) ?_
  simp only [Act.put, List.setIfInBounds_toArray, List.set_cons_zero, List.set_cons_succ]
  refine onlyCall 12 43 rfl rfl (by kernel_rfl) rfl (exec_call [.int .i64 2] rfl rfl Tryz.func33 (by kernel_rfl) (by kernel_rfl)) ?_
  refine (num_any 2 _).mono ?_
  rintro e w' ⟨rfl, rfl⟩
  refine ⟨_, rfl, .inr (by assumption), ?_⟩
  simp only [Act.put, List.setIfInBounds_toArray, List.set_cons_zero, List.set_cons_succ]
  refine take 13 44 (v := .bool true) rfl rfl (by kernel_rfl) (by kernel_rfl) (by kernel_rfl) rfl (fun W hW => exec_bini rfl rfl rfl (e4 W)) (by assumption) ?_
  simp only [Act.put, List.setIfInBounds_toArray, List.set_cons_zero, List.set_cons_succ]
  refine take 14 45 (v := .bool true) rfl rfl (by kernel_rfl) (by kernel_rfl) (by kernel_rfl) rfl (fun W hW => rfl) (by assumption) ?_
  simp only [Act.put, List.setIfInBounds_toArray, List.set_cons_zero, List.set_cons_succ]
  refine take 15 46 (v := .bool true) rfl rfl (by kernel_rfl) (by kernel_rfl) (by kernel_rfl) rfl (fun W hW => exec_move rfl rfl) (by assumption) ?_
  simp only [Act.put, List.setIfInBounds_toArray, List.set_cons_zero, List.set_cons_succ]
  refine take 16 47 (v := .agg #[.int .i64 VM.kind, .bool VM.b, .int .i64 VM.n, .string (strB VM.text), .slice pk6 VM.keys.length ck6, .slice pl6 VM.list.length cl6]) rfl rfl (by kernel_rfl) (by kernel_rfl) (by kernel_rfl) rfl (fun W hW => exec_load rfl rfl (get_val hW.box)) (by assumption) ?_
  simp only [Act.put, List.setIfInBounds_toArray, List.set_cons_zero, List.set_cons_succ]
  refine onlyCall 17 48 rfl rfl (by kernel_rfl) rfl (exec_call [.string (strB [97])] rfl rfl Tryz.func44 (by kernel_rfl) (by kernel_rfl)) ?_
  refine (string_any [97] _).mono ?_
  rintro e w' ⟨rfl, hb⟩
  have hU := hU.keep hb
  clear hb
  refine ⟨_, rfl, .inr (by assumption), ?_⟩
  simp only [Act.put, List.setIfInBounds_toArray, List.set_cons_zero, List.set_cons_succ]
  refine onlyCall 18 49 rfl rfl (by kernel_rfl) rfl (exec_call [.agg #[.int .i64 VM.kind, .bool VM.b, .int .i64 VM.n, .string (strB VM.text), .slice pk6 VM.keys.length ck6, .slice pl6 VM.list.length cl6], .agg (flatX 3 false 0 [97])] rfl rfl Tryz.func20 (by kernel_rfl) (by kernel_rfl)) ?_
  refine (cmp_call HE.out hU).mono ?_
  rintro e w' ⟨rfl, hU⟩
  refine ⟨_, rfl, .inr (by assumption), ?_⟩
  simp only [Act.put, List.setIfInBounds_toArray, List.set_cons_zero, List.set_cons_succ]
  refine take 19 50 (v := .bool true) rfl rfl (by kernel_rfl) (by kernel_rfl) (by kernel_rfl) rfl (fun W hW => exec_bini rfl rfl rfl (e5 W)) (by assumption) ?_
  simp only [Act.put, List.setIfInBounds_toArray, List.set_cons_zero, List.set_cons_succ]
  refine take 20 51 (v := .bool true) rfl rfl (by kernel_rfl) (by kernel_rfl) (by kernel_rfl) rfl (fun W hW => rfl) (by assumption) ?_
  simp only [Act.put, List.setIfInBounds_toArray, List.set_cons_zero, List.set_cons_succ]
  refine take 21 52 (v := .bool true) rfl rfl (by kernel_rfl) (by kernel_rfl) (by kernel_rfl) rfl (fun W hW => exec_move rfl rfl) (by assumption) ?_
  simp only [Act.put, List.setIfInBounds_toArray, List.set_cons_zero, List.set_cons_succ]
  refine take 22 53 (v := .agg #[.int .i64 VM.kind, .bool VM.b, .int .i64 VM.n, .string (strB VM.text), .slice pk6 VM.keys.length ck6, .slice pl6 VM.list.length cl6]) rfl rfl (by kernel_rfl) (by kernel_rfl) (by kernel_rfl) rfl (fun W hW => exec_load rfl rfl (get_val hW.box)) (by assumption) ?_
  simp only [Act.put, List.setIfInBounds_toArray, List.set_cons_zero, List.set_cons_succ]
  refine take 23 54 (v := .agg #[.int .i64 VM.kind, .bool VM.b, .int .i64 VM.n, .string (strB VM.text), .slice pk6 VM.keys.length ck6, .slice pl6 VM.list.length cl6]) rfl rfl (by kernel_rfl) (by kernel_rfl) (by kernel_rfl) rfl (fun W hW => exec_load rfl rfl (get_val hW.box)) (by assumption) ?_
  simp only [Act.put, List.setIfInBounds_toArray, List.set_cons_zero, List.set_cons_succ]
  refine onlyCall 24 55 rfl rfl (by kernel_rfl) rfl (exec_call [.agg #[.int .i64 VM.kind, .bool VM.b, .int .i64 VM.n, .string (strB VM.text), .slice pk6 VM.keys.length ck6, .slice pl6 VM.list.length cl6], .agg #[.int .i64 VM.kind, .bool VM.b, .int .i64 VM.n, .string (strB VM.text), .slice pk6 VM.keys.length ck6, .slice pl6 VM.list.length cl6]] rfl rfl Tryz.func25 (by kernel_rfl) (by kernel_rfl)) ?_
  refine (eq_call HE.out hU).mono ?_
  rintro e w' ⟨rfl, hU⟩
  refine ⟨_, rfl, .inr (by assumption), ?_⟩
  simp only [Act.put, List.setIfInBounds_toArray, List.set_cons_zero, List.set_cons_succ]
  refine take 25 56 (v := .bool true) rfl rfl (by kernel_rfl) (by kernel_rfl) (by kernel_rfl) rfl (fun W hW => exec_bini rfl rfl rfl (e6 W)) (by assumption) ?_
  simp only [Act.put, List.setIfInBounds_toArray, List.set_cons_zero, List.set_cons_succ]
  refine take 26 57 (v := .bool true) rfl rfl (by kernel_rfl) (by kernel_rfl) (by kernel_rfl) rfl (fun W hW => rfl) (by assumption) ?_
  simp only [Act.put, List.setIfInBounds_toArray, List.set_cons_zero, List.set_cons_succ]
  refine take 27 58 (v := .bool true) rfl rfl (by kernel_rfl) (by kernel_rfl) (by kernel_rfl) rfl (fun W hW => exec_move rfl rfl) (by assumption) ?_
  simp only [Act.put, List.setIfInBounds_toArray, List.set_cons_zero, List.set_cons_succ]
  refine onlyCall 28 59 rfl rfl (by kernel_rfl) rfl (exec_call [.int .i64 1] rfl rfl Tryz.func43 (by kernel_rfl) (by kernel_rfl)) ?_
  refine (int_any 1 _).mono ?_
  rintro e w' ⟨rfl, hb⟩
  have hU := hU.keep hb
  clear hb
  refine ⟨_, rfl, .inr (by assumption), ?_⟩
  simp only [Act.put, List.setIfInBounds_toArray, List.set_cons_zero, List.set_cons_succ]
  refine onlyCall 29 60 rfl rfl (by kernel_rfl) rfl (exec_call [.int .i64 2] rfl rfl Tryz.func43 (by kernel_rfl) (by kernel_rfl)) ?_
  refine (int_any 2 _).mono ?_
  rintro e w' ⟨rfl, hb⟩
  have hU := hU.keep hb
  clear hb
  refine ⟨_, rfl, .inr (by assumption), ?_⟩
  simp only [Act.put, List.setIfInBounds_toArray, List.set_cons_zero, List.set_cons_succ]
  refine onlyCall 30 61 rfl rfl (by kernel_rfl) rfl (exec_call [.agg (flatX 2 false 1 []), .agg (flatX 2 false 2 [])] rfl rfl Tryz.func26 (by kernel_rfl) (by kernel_rfl)) ?_
  refine (less_call HE.out hU).mono ?_
  rintro e w' ⟨rfl, hU⟩
  refine ⟨_, rfl, .inr (by assumption), ?_⟩
  simp only [Act.put, List.setIfInBounds_toArray, List.set_cons_zero, List.set_cons_succ]
  refine take 31 62 (v := .bool true) rfl rfl (by kernel_rfl) (by kernel_rfl) (by kernel_rfl) rfl (fun W hW => exec_bini rfl rfl rfl (e7 W)) (by assumption) ?_
  simp only [Act.put, List.setIfInBounds_toArray, List.set_cons_zero, List.set_cons_succ]
  refine take 32 63 (v := .bool true) rfl rfl (by kernel_rfl) (by kernel_rfl) (by kernel_rfl) rfl (fun W hW => rfl) (by assumption) ?_
  simp only [Act.put, List.setIfInBounds_toArray, List.set_cons_zero, List.set_cons_succ]
  refine take 33 64 (v := .bool true) rfl rfl (by kernel_rfl) (by kernel_rfl) (by kernel_rfl) rfl (fun W hW => exec_move rfl rfl) (by assumption) ?_
  simp only [Act.put, List.setIfInBounds_toArray, List.set_cons_zero, List.set_cons_succ]
  refine take 34 65 (v := .agg #[.int .i64 VM.kind, .bool VM.b, .int .i64 VM.n, .string (strB VM.text), .slice pk6 VM.keys.length ck6, .slice pl6 VM.list.length cl6]) rfl rfl (by kernel_rfl) (by kernel_rfl) (by kernel_rfl) rfl (fun W hW => exec_load rfl rfl (get_val hW.box)) (by assumption) ?_
  simp only [Act.put, List.setIfInBounds_toArray, List.set_cons_zero, List.set_cons_succ]
  refine take 35 66 (v := .agg #[.int .i64 VM.kind, .bool VM.b, .int .i64 VM.n, .string (strB VM.text), .slice pk6 VM.keys.length ck6, .slice pl6 VM.list.length cl6]) rfl rfl (by kernel_rfl) (by kernel_rfl) (by kernel_rfl) rfl (fun W hW => exec_load rfl rfl (get_val hW.box)) (by assumption) ?_
  simp only [Act.put, List.setIfInBounds_toArray, List.set_cons_zero, List.set_cons_succ]
  refine onlyCall 36 67 rfl rfl (by kernel_rfl) rfl (exec_call [.agg #[.int .i64 VM.kind, .bool VM.b, .int .i64 VM.n, .string (strB VM.text), .slice pk6 VM.keys.length ck6, .slice pl6 VM.list.length cl6]] rfl rfl Tryz.func51 (by kernel_rfl) (by kernel_rfl)) ?_
  refine (copy_call hU).mono ?_
  rintro e w' ⟨y, rfl, hy, hU⟩
  refine ⟨_, rfl, .inr (by assumption), ?_⟩
  simp only [Act.put, List.setIfInBounds_toArray, List.set_cons_zero, List.set_cons_succ]
  refine onlyCall 37 68 rfl rfl (by kernel_rfl) rfl (exec_call [.agg #[.int .i64 VM.kind, .bool VM.b, .int .i64 VM.n, .string (strB VM.text), .slice pk6 VM.keys.length ck6, .slice pl6 VM.list.length cl6], .agg y] rfl rfl Tryz.func21 (by kernel_rfl) (by kernel_rfl)) ?_
  refine (same_call HE.out hU hy).mono ?_
  rintro e w' ⟨rfl, hU⟩
  refine ⟨_, rfl, .inr (by assumption), ?_⟩
  simp only [Act.put, List.setIfInBounds_toArray, List.set_cons_zero, List.set_cons_succ]
  refine take 38 69 (v := .bool true) rfl rfl (by kernel_rfl) (by kernel_rfl) (by kernel_rfl) rfl (fun W hW => rfl) (by assumption) ?_
  simp only [Act.put, List.setIfInBounds_toArray, List.set_cons_zero, List.set_cons_succ]
  refine take 39 0 (v := .bool true) rfl rfl (by kernel_rfl) (by kernel_rfl) (by kernel_rfl) rfl (fun W hW => exec_assign rfl rfl) (by assumption) ?_
  simp only [Act.put, List.setIfInBounds_toArray, List.set_cons_zero, List.set_cons_succ]
  refine done (by kernel_rfl) ?_ _
  go_wp2
  go_ret
  exact ⟨rfl, hU.below⟩
end Go.Proofs.YtnkaegdnjfpliaaGreatDoor
